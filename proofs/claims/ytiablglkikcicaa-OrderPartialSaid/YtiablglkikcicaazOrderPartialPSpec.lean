/- Chapter 19: clocks joined, ticked, compared, as tables. -/
import Derived.Test.YtiablglkikcicaazOrderPartialRLRow2
import Derived.Test.YtiablglkikcicaazOrderPartialRL15
import Derived.Test.YtiablglkikcicaazOrderPartialRLNames
namespace Go.Proofs.Ytiablglkikcicaa.sp
open Go Go.Proofs.YtiablglkikcicaaRL
set_option linter.unusedVariables false
set_option linter.unusedSimpArgs false
def clk (x : Nat → Int) : V := .agg (numsV .i64 x 4)
def readClk : V → Option (Nat → Int)
  | .agg cs => match readNums .i64 4 cs with
    | some (xs, []) => some fun i => xs.getD i 0
    | _ => none
  | _ => none
theorem readClk_eq {v : V} {x : Nat → Int} (h : readClk v = some x) : v = clk x := by
  unfold readClk at h
  split at h
  · split at h
    · rename_i hr
      cases h
      rw [readNums_eq hr]
      simp [clk]
    · cases h
  · cases h
theorem rawsOk_clk {ws : List V} (h : rawsOk (List.replicate 4 (.int .i64)) ws) : ∃ x, (∀ i, i < 4 → (Lit.int .i64 (x i)).wf = true) ∧ V.agg ws = clk x := by
  have h : rawsOk (List.replicate 4 (.int .i64) ++ []) ws := by simpa using h
  obtain ⟨x, hx, ws1, h1, rfl⟩ := rawsOk_nums (m := 4) h
  cases rawsOk_nil h1
  exact ⟨x, hx, by simp [clk]⟩
theorem bd_clk (x : Nat → Int) (b : Nat) : (clk x).bd b := by
  refine bdL_iff.2 fun v hv => ?_
  simp only [numsV, List.mem_map] at hv
  obtain ⟨i, _, rfl⟩ := hv
  trivial
def joinX (a b : Nat → Int) (i : Nat) : Int := if b i > a i then b i else a i
def eq4 (a b : Nat → Int) : Bool := (a 0 == b 0) && ((a 1 == b 1) && ((a 2 == b 2) && ((a 3 == b 3) && true)))
def tickX (a : Nat → Int) (t : Int) (i : Nat) : Int := match decide (0 ≤ t ∧ t < 4) with
  | true => (match decide ((i : Int) = t) with | true => IntKind.i64.wrap (a i + 1) | false => a i)
  | false => a i
def beforeX (a b : Nat → Int) : Bool := match !eq4 a b with
  | true => eq4 (joinX a b) b
  | false => false
def compareX (a b : Nat → Int) : Int := match beforeX a b with
  | true => -1
  | false => match beforeX b a with
    | true => 1
    | false => 0
theorem eq4_iff {a b : Nat → Int} : eq4 a b = true ↔ ∀ i, i < 4 → a i = b i := by
  simp only [eq4, Bool.and_eq_true, beq_iff_eq]
  constructor
  · rintro ⟨h0, h1, h2, h3, _⟩ i hi
    match i, hi with
    | 0, _ => exact h0
    | 1, _ => exact h1
    | 2, _ => exact h2
    | 3, _ => exact h3
  · intro h
    exact ⟨h 0 (by omega), h 1 (by omega), h 2 (by omega), h 3 (by omega), trivial⟩
theorem clk_congr {a b : Nat → Int} (h : ∀ i, i < 4 → a i = b i) : clk a = clk b := by
  simp only [clk, numsV]
  congr 1
  refine List.map_congr_left fun i hi => ?_
  rw [h i (List.mem_range.1 hi)]
def gJoin : List V → Option V
  | [x, y] => match readClk x, readClk y with
    | some a, some b => some (clk (joinX a b))
    | _, _ => none
  | _ => none
def gTick : List V → Option V
  | [x, .raw (.int .i64 t)] => match readClk x with
    | some a => some (clk (tickX a t))
    | none => none
  | _ => none
def gBefore : List V → Option V
  | [x, y] => match readClk x, readClk y with
    | some a, some b => some (.raw (.bool (beforeX a b)))
    | _, _ => none
  | _ => none
def gCompare : List V → Option V
  | [x, y] => match readClk x, readClk y with
    | some a, some b => some (.raw (.int .i64 (compareX a b)))
    | _, _ => none
  | _ => none
theorem gJoin_ok {f : FuncId} (hf : ∀ a b, CallOk Try.prog f [clk a, clk b] [] fun r _ => r = .ret (clk (joinX a b))) (args : List V) (v : V) (h : gJoin args = some v) : bdL 0 args ∧ v.bd 0 ∧ CallOk Try.prog f args [] fun r _ => r = .ret v := by
  unfold gJoin at h
  split at h
  · split at h
    · rename_i h1 h2
      cases h
      rw [readClk_eq h1, readClk_eq h2]
      exact ⟨⟨bd_clk _ _, bd_clk _ _, trivial⟩, bd_clk _ _, hf _ _⟩
    · cases h
  · cases h
theorem gTick_ok {f : FuncId} (hf : ∀ a t, CallOk Try.prog f [clk a, .raw (.int .i64 t)] [] fun r _ => r = .ret (clk (tickX a t))) (args : List V) (v : V) (h : gTick args = some v) : bdL 0 args ∧ v.bd 0 ∧ CallOk Try.prog f args [] fun r _ => r = .ret v := by
  unfold gTick at h
  split at h
  · split at h
    · rename_i h1
      cases h
      rw [readClk_eq h1]
      exact ⟨⟨bd_clk _ _, trivial, trivial⟩, bd_clk _ _, hf _ _⟩
    · cases h
  · cases h
theorem gBefore_ok {f : FuncId} (hf : ∀ a b, CallOk Try.prog f [clk a, clk b] [] fun r _ => r = .ret (.raw (.bool (beforeX a b)))) (args : List V) (v : V) (h : gBefore args = some v) : bdL 0 args ∧ v.bd 0 ∧ CallOk Try.prog f args [] fun r _ => r = .ret v := by
  unfold gBefore at h
  split at h
  · split at h
    · rename_i h1 h2
      cases h
      rw [readClk_eq h1, readClk_eq h2]
      exact ⟨⟨bd_clk _ _, bd_clk _ _, trivial⟩, trivial, hf _ _⟩
    · cases h
  · cases h
theorem gCompare_ok {f : FuncId} (hf : ∀ a b, CallOk Try.prog f [clk a, clk b] [] fun r _ => r = .ret (.raw (.int .i64 (compareX a b)))) (args : List V) (v : V) (h : gCompare args = some v) : bdL 0 args ∧ v.bd 0 ∧ CallOk Try.prog f args [] fun r _ => r = .ret v := by
  unfold gCompare at h
  split at h
  · split at h
    · rename_i h1 h2
      cases h
      rw [readClk_eq h1, readClk_eq h2]
      exact ⟨⟨bd_clk _ _, bd_clk _ _, trivial⟩, trivial, hf _ _⟩
    · cases h
  · cases h
set_option maxRecDepth 100000
theorem join_ok (a b : Nat → Int) : CallOk Try.prog 8 [clk a, clk b] [] fun r _ => r = .ret (clk (joinX a b)) := runV_ok noD_ok names mixed (n := 20) (by kernel_rfl)
def stp (a b : Int) (K : Int → Option V) : Option V := match decide (b > a) with
  | true => K b
  | false => K a
theorem stp_eq (a b : Int) (K : Int → Option V) : stp a b K = K (if b > a then b else a) := by
  unfold stp
  by_cases h : b > a <;> simp [h]
theorem rjoin_f (a b : Nat → Int) : runI Try.prog noD 20 9 [clk a, clk b] = stp (a 0) (b 0) fun c0 => stp (a 1) (b 1) fun c1 => stp (a 2) (b 2) fun c2 => stp (a 3) (b 3) fun c3 => some (.agg [.raw (.int .i64 c0), .raw (.int .i64 c1), .raw (.int .i64 c2), .raw (.int .i64 c3)]) := by kernel_rfl
theorem rjoin_ok (a b : Nat → Int) : CallOk Try.prog 9 [clk a, clk b] [] fun r _ => r = .ret (clk (joinX a b)) := by
  refine runI_ok noD_ok names mixed (n := 20) ((rjoin_f a b).trans ?_)
  simp only [stp_eq]
  rfl

theorem tick_in (a : Nat → Int) : ∀ k : Nat, k < 4 → CallOk Try.prog 10 [clk a, .raw (.int .i64 (k : Nat))] [] fun r _ => r = .ret (clk (tickX a (k : Nat)))
  | 0, _ => runV_ok noD_ok names mixed (n := 20) (by kernel_rfl)
  | 1, _ => runV_ok noD_ok names mixed (n := 20) (by kernel_rfl)
  | 2, _ => runV_ok noD_ok names mixed (n := 20) (by kernel_rfl)
  | 3, _ => runV_ok noD_ok names mixed (n := 20) (by kernel_rfl)
  | k + 4, h => absurd h (by omega)
theorem tick_ok (a : Nat → Int) (t : Int) : CallOk Try.prog 10 [clk a, .raw (.int .i64 t)] [] fun r _ => r = .ret (clk (tickX a t)) := by
  by_cases ht : 0 ≤ t ∧ t < 4
  · obtain ⟨k, rfl⟩ := Int.eq_ofNat_of_zero_le ht.1
    exact tick_in a k (by omega)
  · have hc : (∃ k, t = Int.negSucc k) ∨ ∃ k, t = Int.ofNat (k + 4) := by
      rcases t with k | k
      · have h2 : ¬ k < 4 := fun h => ht ⟨Int.natCast_nonneg k, by show (k : Int) < 4; omega⟩
        exact Or.inr ⟨k - 4, by congr 1; omega⟩
      · exact Or.inl ⟨k, rfl⟩
    have e : clk (tickX a t) = clk a := clk_congr fun i _ => by unfold tickX; rw [decide_eq_false ht]
    rw [e]
    rcases hc with ⟨k, rfl⟩ | ⟨k, rfl⟩
    all_goals exact runV_ok noD_ok names mixed (n := 20) (by kernel_rfl)

theorem rtick_in (a : Nat → Int) : ∀ k : Nat, k < 4 → CallOk Try.prog 11 [clk a, .raw (.int .i64 (k : Nat))] [] fun r _ => r = .ret (clk (tickX a (k : Nat)))
  | 0, _ => runV_ok noD_ok names mixed (n := 20) (by kernel_rfl)
  | 1, _ => runV_ok noD_ok names mixed (n := 20) (by kernel_rfl)
  | 2, _ => runV_ok noD_ok names mixed (n := 20) (by kernel_rfl)
  | 3, _ => runV_ok noD_ok names mixed (n := 20) (by kernel_rfl)
  | k + 4, h => absurd h (by omega)
theorem rtick_ok (a : Nat → Int) (t : Int) : CallOk Try.prog 11 [clk a, .raw (.int .i64 t)] [] fun r _ => r = .ret (clk (tickX a t)) := by
  by_cases ht : 0 ≤ t ∧ t < 4
  · obtain ⟨k, rfl⟩ := Int.eq_ofNat_of_zero_le ht.1
    exact rtick_in a k (by omega)
  · have hc : (∃ k, t = Int.negSucc k) ∨ ∃ k, t = Int.ofNat (k + 4) := by
      rcases t with k | k
      · have h2 : ¬ k < 4 := fun h => ht ⟨Int.natCast_nonneg k, by show (k : Int) < 4; omega⟩
        exact Or.inr ⟨k - 4, by congr 1; omega⟩
      · exact Or.inl ⟨k, rfl⟩
    have e : clk (tickX a t) = clk a := clk_congr fun i _ => by unfold tickX; rw [decide_eq_false ht]
    rw [e]
    rcases hc with ⟨k, rfl⟩ | ⟨k, rfl⟩
    all_goals exact runV_ok noD_ok names mixed (n := 20) (by kernel_rfl)

noncomputable def D1 : Dh := specD 8 gJoin noD
theorem hD1 : DOk Try.prog D1 := specD_ok noD_ok (gJoin_ok join_ok)
theorem before_f (a b : Nat → Int) : runI Try.prog D1 20 12 [clk a, clk b] = (match !eq4 a b with | true => some (.raw (.bool (eq4 (joinX a b) b))) | false => some (.raw (.bool false))) := by kernel_rfl
theorem before_ok (a b : Nat → Int) : CallOk Try.prog 12 [clk a, clk b] [] fun r _ => r = .ret (.raw (.bool (beforeX a b))) := by
  refine runI_ok hD1 names mixed (n := 20) ((before_f a b).trans ?_)
  unfold beforeX
  cases !eq4 a b <;> rfl
theorem rbefore_f (a b : Nat → Int) : runI Try.prog noD 20 13 [clk a, clk b] = (match decide (a 0 > b 0) with | true => some (.raw (.bool false)) | false => match decide (a 1 > b 1) with | true => some (.raw (.bool false)) | false => match decide (a 2 > b 2) with | true => some (.raw (.bool false)) | false => match decide (a 3 > b 3) with | true => some (.raw (.bool false)) | false => some (.raw (.bool (!eq4 a b)))) := by kernel_rfl
theorem join_up {a b : Nat → Int} : eq4 (joinX a b) b = true ↔ ∀ i, i < 4 → a i ≤ b i := by
  rw [eq4_iff]
  refine forall_congr' fun i => forall_congr' fun _ => ?_
  unfold joinX
  split <;> omega
theorem rbefore_ok (a b : Nat → Int) : CallOk Try.prog 13 [clk a, clk b] [] fun r _ => r = .ret (.raw (.bool (beforeX a b))) := by
  refine runI_ok noD_ok names mixed (n := 20) ((rbefore_f a b).trans ?_)
  have no : ∀ i, i < 4 → a i > b i → beforeX a b = false := fun i hi h => by
    unfold beforeX
    cases !eq4 a b with
    | false => rfl
    | true =>
      dsimp only
      cases hj : eq4 (joinX a b) b with
      | false => rfl
      | true => have := join_up.1 hj i hi; omega
  by_cases h0 : a 0 > b 0
  · rw [decide_eq_true h0, no 0 (by omega) h0]
  rw [decide_eq_false h0]; dsimp only
  by_cases h1 : a 1 > b 1
  · rw [decide_eq_true h1, no 1 (by omega) h1]
  rw [decide_eq_false h1]; dsimp only
  by_cases h2 : a 2 > b 2
  · rw [decide_eq_true h2, no 2 (by omega) h2]
  rw [decide_eq_false h2]; dsimp only
  by_cases h3 : a 3 > b 3
  · rw [decide_eq_true h3, no 3 (by omega) h3]
  rw [decide_eq_false h3]; dsimp only
  have hj : eq4 (joinX a b) b = true := join_up.2 fun i hi => match i, hi with
    | 0, _ => by omega
    | 1, _ => by omega
    | 2, _ => by omega
    | 3, _ => by omega
  unfold beforeX
  rw [hj]
  cases !eq4 a b <;> rfl
noncomputable def D2 : Dh := specD 12 gBefore (specD 13 gBefore noD)
theorem hD2 : DOk Try.prog D2 := specD_ok (specD_ok noD_ok (gBefore_ok rbefore_ok)) (gBefore_ok before_ok)
theorem cmp_of (a b : Nat → Int) : (match beforeX a b with | true => some (V.raw (.int .i64 (-1))) | false => match beforeX b a with | true => some (.raw (.int .i64 1)) | false => some (.raw (.int .i64 0))) = some (.raw (.int .i64 (compareX a b))) := by
  unfold compareX
  cases beforeX a b
  · cases beforeX b a <;> rfl
  · rfl
theorem compare_f (a b : Nat → Int) : runI Try.prog D2 20 14 [clk a, clk b] = (match beforeX a b with | true => some (V.raw (.int .i64 (-1))) | false => match beforeX b a with | true => some (.raw (.int .i64 1)) | false => some (.raw (.int .i64 0))) := by kernel_rfl
theorem rcompare_f (a b : Nat → Int) : runI Try.prog D2 20 15 [clk a, clk b] = (match beforeX a b with | true => some (V.raw (.int .i64 (-1))) | false => match beforeX b a with | true => some (.raw (.int .i64 1)) | false => some (.raw (.int .i64 0))) := by kernel_rfl
theorem compare_ok (a b : Nat → Int) : CallOk Try.prog 14 [clk a, clk b] [] fun r _ => r = .ret (.raw (.int .i64 (compareX a b))) := runI_ok hD2 names mixed (n := 20) ((compare_f a b).trans (cmp_of a b))
theorem rcompare_ok (a b : Nat → Int) : CallOk Try.prog 15 [clk a, clk b] [] fun r _ => r = .ret (.raw (.int .i64 (compareX a b))) := runI_ok hD2 names mixed (n := 20) ((rcompare_f a b).trans (cmp_of a b))
/-- The law's check of the code at one input. -/
def gTrue : List V → Option V
  | [] => some (.raw (.bool true))
  | _ => none
theorem known_ok : CallOk Try.prog 7 [] [] fun r _ => r = .ret (.raw (.bool true)) := runV_ok noD_ok names mixed (n := 200) (by kernel_rfl)
theorem gTrue_ok (args : List V) (v : V) (h : gTrue args = some v) : bdL 0 args ∧ v.bd 0 ∧ CallOk Try.prog 7 args [] fun r _ => r = .ret v := by
  unfold gTrue at h
  split at h
  · cases h; exact ⟨trivial, trivial, known_ok⟩
  · cases h
noncomputable def D : Dh := specD 7 gTrue (specD 8 gJoin (specD 9 gJoin (specD 10 gTick (specD 11 gTick (specD 14 gCompare (specD 15 gCompare D2))))))
theorem hD : DOk Try.prog D := specD_ok (specD_ok (specD_ok (specD_ok (specD_ok (specD_ok (specD_ok hD2 (gCompare_ok rcompare_ok)) (gCompare_ok compare_ok)) (gTick_ok rtick_ok)) (gTick_ok tick_ok)) (gJoin_ok rjoin_ok)) (gJoin_ok join_ok)) gTrue_ok
end Go.Proofs.Ytiablglkikcicaa.sp
