/- Parts of the proof, one behind the other. -/
import Derived.Test.YtolohpkjpgbahaazSemFramesIDoT
import Derived.Test.YtolohpkjpgbahaazSemFramesIInD
import Derived.Test.YtolohpkjpgbahaazSemFramesFHas
section
/- SemFrames: what an instruction does hangs on what it reads alone (no program in sight). -/
set_option linter.unusedVariables false
set_option linter.unusedSimpArgs false
set_option maxRecDepth 100000
namespace Go.Proofs.Ytolohpkjpgbahaa.semFrames
open Go Go.Proofs Go.Proofs.YtolohpkjpgbahaaRL Go.Proofs.Ytolohpkjpgbahaa.isa
theorem stk_eq (n : Int) : stk n = stkn n := by
  unfold stk stkn
  by_cases h : n = 31
  · subst h; rfl
  · rw [if_neg h, show (n == 31) = false from by simpa using h]
theorem getX_set {x : Nat → Int} {n v q : Int} : getX (setX x n v) q = if q = n then (if (0 ≤ n ∧ n < 31) ∨ n = 32 then v else 0) else getX x q := by
  by_cases hq : 0 ≤ q ∧ q < 31
  · have e : ∀ y, getX y q = y q.toNat := fun y => by unfold getX; rw [decide_eq_true hq]
    rw [e, e]
    unfold setX
    by_cases hn : 0 ≤ n ∧ n < 31
    · rw [decide_eq_true hn]
      by_cases h : q = n
      · subst h
        rw [if_pos rfl, if_pos (.inl hn), decide_eq_true (show ((q.toNat : Nat) : Int) = q by omega)]
      · rw [if_neg h, decide_eq_false (show ¬ ((q.toNat : Nat) : Int) = n by omega)]
    · rw [decide_eq_false hn, if_neg (show ¬ q = n by omega)]
      cases h : n == 32
      · rfl
      · show (match Nat.beq q.toNat 31 with | true => v | false => x q.toNat) = _
        rw [show Nat.beq q.toNat 31 = false from by cases hb : Nat.beq q.toNat 31; rfl; exact absurd (Nat.eq_of_beq_eq_true hb) (by omega)]
  · have e : ∀ y, getX y q = match q == 32 with | true => y 31 | false => 0 := fun y => by unfold getX; rw [decide_eq_false hq]; rfl
    rw [e, e]
    by_cases h32 : q = 32
    · subst h32
      show setX x n v 31 = if (32 : Int) = n then _ else x 31
      by_cases h : (32 : Int) = n
      · subst h; rw [if_pos rfl, if_pos (.inr rfl)]; rfl
      · rw [if_neg h]
        unfold setX
        by_cases hn : 0 ≤ n ∧ n < 31
        · rw [decide_eq_true hn, decide_eq_false (show ¬ ((31 : Nat) : Int) = n by omega)]
        · rw [decide_eq_false hn, show (n == 32) = false from by simpa using fun hh => h hh.symm]
    · rw [show (q == 32) = false from by simpa using h32]
      show (0 : Int) = _
      by_cases h : q = n
      · subst h; rw [if_pos rfl, if_neg (by omega)]
      · rw [if_neg h]
theorem getX_same {x y : Nat → Int} {n v : Int} : getX (setX x n v) n = getX (setX y n v) n := by rw [getX_set, getX_set, if_pos rfl, if_pos rfl]
theorem getX_off {x : Nat → Int} {n v q : Int} (h : q ≠ n) : getX (setX x n v) q = getX x q := by rw [getX_set, if_neg h]
theorem upX_eq {x : Nat → Int} {v : Int} : upX x v = setX x 30 v := by
  funext i
  unfold upX setX
  rw [decide_eq_true (show (0 : Int) ≤ 30 ∧ (30 : Int) < 31 by omega)]
  by_cases h : i = 30
  · subst h; rfl
  · rw [decide_eq_false (show ¬ (i : Int) = 30 by omega), show Nat.beq i 30 = false from by cases hb : Nat.beq i 30; rfl; exact absurd (Nat.eq_of_beq_eq_true hb) h]
/-- The value of a register again. -/
theorem getX_back {x r : Nat → Int} {n q : Int} (h : q = n ∨ getX x q = getX r q) : getX (setX x n (getX r n)) q = getX r q := by
  rw [getX_set]
  by_cases e : q = n
  · subst e
    rw [if_pos rfl]
    by_cases hn : (0 ≤ q ∧ q < 31) ∨ q = 32
    · rw [if_pos hn]
    · rw [if_neg hn]
      unfold getX
      rw [decide_eq_false (fun h => hn (.inl h)), show (q == 32) = false from by simpa using fun h => hn (.inr h)]
  · rw [if_neg e]
    exact h.resolve_left e
section
variable {x y : Nat → Int} {nf zf cf vf nf' zf' cf' vf' : Bool} {d n m a c im pc : Int}
def agr (x y : Nat → Int) (l : List Int) : Prop := ∀ q, q ∈ l → getX x q = getX y q
def agf (l : List Int) (nf zf cf vf nf' zf' cf' vf' : Bool) : Prop := (33 : Int) ∈ l → nf = nf' ∧ zf = zf' ∧ cf = cf' ∧ vf = vf'
theorem val_2 (hg : agr x y (inRaw d n m a 2)) (hf : agf (inRaw d n m a 2) nf zf cf vf nf' zf' cf' vf') : valE 2 x nf zf cf vf d n m a c im = valE 2 y nf' zf' cf' vf' d n m a c im := by
  simp only [valE]
theorem val_3 (hg : agr x y (inRaw d n m a 3)) (hf : agf (inRaw d n m a 3) nf zf cf vf nf' zf' cf' vf') : valE 3 x nf zf cf vf d n m a c im = valE 3 y nf' zf' cf' vf' d n m a c im := by
  have h0 : getX x (d) = getX y (d) := hg _ (show d ∈ [d] from (.head _))
  simp only [valE, h0]
theorem val_4 (hg : agr x y (inRaw d n m a 4)) (hf : agf (inRaw d n m a 4) nf zf cf vf nf' zf' cf' vf') : valE 4 x nf zf cf vf d n m a c im = valE 4 y nf' zf' cf' vf' d n m a c im := by
  have h0 : getX x (stk n) = getX y (stk n) := hg _ (show stk n ∈ [stk n] from (.head _))
  rw [stk_eq] at h0
  simp only [valE, h0]
theorem val_5 (hg : agr x y (inRaw d n m a 5)) (hf : agf (inRaw d n m a 5) nf zf cf vf nf' zf' cf' vf') : valE 5 x nf zf cf vf d n m a c im = valE 5 y nf' zf' cf' vf' d n m a c im := by
  have h0 : getX x (stk n) = getX y (stk n) := hg _ (show stk n ∈ [stk n] from (.head _))
  rw [stk_eq] at h0
  simp only [valE, h0]
theorem val_6 (hg : agr x y (inRaw d n m a 6)) (hf : agf (inRaw d n m a 6) nf zf cf vf nf' zf' cf' vf') : valE 6 x nf zf cf vf d n m a c im = valE 6 y nf' zf' cf' vf' d n m a c im := by
  have h0 : getX x (stk n) = getX y (stk n) := hg _ (show stk n ∈ [stk n] from (.head _))
  rw [stk_eq] at h0
  simp only [valE, h0]
theorem val_7 (hg : agr x y (inRaw d n m a 7)) (hf : agf (inRaw d n m a 7) nf zf cf vf nf' zf' cf' vf') : valE 7 x nf zf cf vf d n m a c im = valE 7 y nf' zf' cf' vf' d n m a c im := by
  have h0 : getX x (n) = getX y (n) := hg _ (show n ∈ [n, m] from (.head _))
  have h1 : getX x (m) = getX y (m) := hg _ (show m ∈ [n, m] from (.tail _ (.head _)))
  simp only [valE, h0, h1]
theorem val_8 (hg : agr x y (inRaw d n m a 8)) (hf : agf (inRaw d n m a 8) nf zf cf vf nf' zf' cf' vf') : valE 8 x nf zf cf vf d n m a c im = valE 8 y nf' zf' cf' vf' d n m a c im := by
  have h0 : getX x (n) = getX y (n) := hg _ (show n ∈ [n, m] from (.head _))
  have h1 : getX x (m) = getX y (m) := hg _ (show m ∈ [n, m] from (.tail _ (.head _)))
  simp only [valE, h0, h1]
theorem val_9 (hg : agr x y (inRaw d n m a 9)) (hf : agf (inRaw d n m a 9) nf zf cf vf nf' zf' cf' vf') : valE 9 x nf zf cf vf d n m a c im = valE 9 y nf' zf' cf' vf' d n m a c im := by
  have h0 : getX x (n) = getX y (n) := hg _ (show n ∈ [n, m] from (.head _))
  have h1 : getX x (m) = getX y (m) := hg _ (show m ∈ [n, m] from (.tail _ (.head _)))
  simp only [valE, h0, h1]
theorem val_10 (hg : agr x y (inRaw d n m a 10)) (hf : agf (inRaw d n m a 10) nf zf cf vf nf' zf' cf' vf') : valE 10 x nf zf cf vf d n m a c im = valE 10 y nf' zf' cf' vf' d n m a c im := by
  have h0 : getX x (n) = getX y (n) := hg _ (show n ∈ [n, m] from (.head _))
  have h1 : getX x (m) = getX y (m) := hg _ (show m ∈ [n, m] from (.tail _ (.head _)))
  simp only [valE, h0, h1]
theorem val_11 (hg : agr x y (inRaw d n m a 11)) (hf : agf (inRaw d n m a 11) nf zf cf vf nf' zf' cf' vf') : valE 11 x nf zf cf vf d n m a c im = valE 11 y nf' zf' cf' vf' d n m a c im := by
  have h0 : getX x (n) = getX y (n) := hg _ (show n ∈ [n, m] from (.head _))
  have h1 : getX x (m) = getX y (m) := hg _ (show m ∈ [n, m] from (.tail _ (.head _)))
  simp only [valE, h0, h1]
theorem val_12 (hg : agr x y (inRaw d n m a 12)) (hf : agf (inRaw d n m a 12) nf zf cf vf nf' zf' cf' vf') : valE 12 x nf zf cf vf d n m a c im = valE 12 y nf' zf' cf' vf' d n m a c im := by
  have h0 : getX x (n) = getX y (n) := hg _ (show n ∈ [n, m] from (.head _))
  have h1 : getX x (m) = getX y (m) := hg _ (show m ∈ [n, m] from (.tail _ (.head _)))
  simp only [valE, h0, h1]
theorem val_13 (hg : agr x y (inRaw d n m a 13)) (hf : agf (inRaw d n m a 13) nf zf cf vf nf' zf' cf' vf') : valE 13 x nf zf cf vf d n m a c im = valE 13 y nf' zf' cf' vf' d n m a c im := by
  have h0 : getX x (n) = getX y (n) := hg _ (show n ∈ [n, m, a] from (.head _))
  have h1 : getX x (m) = getX y (m) := hg _ (show m ∈ [n, m, a] from (.tail _ (.head _)))
  have h2 : getX x (a) = getX y (a) := hg _ (show a ∈ [n, m, a] from (.tail _ (.tail _ (.head _))))
  simp only [valE, h0, h1, h2]
theorem val_14 (hg : agr x y (inRaw d n m a 14)) (hf : agf (inRaw d n m a 14) nf zf cf vf nf' zf' cf' vf') : valE 14 x nf zf cf vf d n m a c im = valE 14 y nf' zf' cf' vf' d n m a c im := by
  have h0 : getX x (n) = getX y (n) := hg _ (show n ∈ [n, m, a] from (.head _))
  have h1 : getX x (m) = getX y (m) := hg _ (show m ∈ [n, m, a] from (.tail _ (.head _)))
  have h2 : getX x (a) = getX y (a) := hg _ (show a ∈ [n, m, a] from (.tail _ (.tail _ (.head _))))
  simp only [valE, h0, h1, h2]
theorem val_15 (hg : agr x y (inRaw d n m a 15)) (hf : agf (inRaw d n m a 15) nf zf cf vf nf' zf' cf' vf') : valE 15 x nf zf cf vf d n m a c im = valE 15 y nf' zf' cf' vf' d n m a c im := by
  have h0 : getX x (n) = getX y (n) := hg _ (show n ∈ [n, m] from (.head _))
  have h1 : getX x (m) = getX y (m) := hg _ (show m ∈ [n, m] from (.tail _ (.head _)))
  simp only [valE, h0, h1]
theorem val_16 (hg : agr x y (inRaw d n m a 16)) (hf : agf (inRaw d n m a 16) nf zf cf vf nf' zf' cf' vf') : valE 16 x nf zf cf vf d n m a c im = valE 16 y nf' zf' cf' vf' d n m a c im := by
  have h0 : getX x (n) = getX y (n) := hg _ (show n ∈ [n, m] from (.head _))
  have h1 : getX x (m) = getX y (m) := hg _ (show m ∈ [n, m] from (.tail _ (.head _)))
  simp only [valE, h0, h1]
theorem val_17 (hg : agr x y (inRaw d n m a 17)) (hf : agf (inRaw d n m a 17) nf zf cf vf nf' zf' cf' vf') : valE 17 x nf zf cf vf d n m a c im = valE 17 y nf' zf' cf' vf' d n m a c im := by
  have h0 : getX x (n) = getX y (n) := hg _ (show n ∈ [n, m] from (.head _))
  have h1 : getX x (m) = getX y (m) := hg _ (show m ∈ [n, m] from (.tail _ (.head _)))
  simp only [valE, h0, h1]
theorem val_18 (hg : agr x y (inRaw d n m a 18)) (hf : agf (inRaw d n m a 18) nf zf cf vf nf' zf' cf' vf') : valE 18 x nf zf cf vf d n m a c im = valE 18 y nf' zf' cf' vf' d n m a c im := by
  have h0 : getX x (n) = getX y (n) := hg _ (show n ∈ [n, m] from (.head _))
  have h1 : getX x (m) = getX y (m) := hg _ (show m ∈ [n, m] from (.tail _ (.head _)))
  simp only [valE, h0, h1]
theorem val_19 (hg : agr x y (inRaw d n m a 19)) (hf : agf (inRaw d n m a 19) nf zf cf vf nf' zf' cf' vf') : valE 19 x nf zf cf vf d n m a c im = valE 19 y nf' zf' cf' vf' d n m a c im := by
  have h0 : getX x (n) = getX y (n) := hg _ (show n ∈ [n, m, 33] from (.head _))
  have h1 : getX x (m) = getX y (m) := hg _ (show m ∈ [n, m, 33] from (.tail _ (.head _)))
  obtain ⟨rfl, rfl, rfl, rfl⟩ := hf (show (33 : Int) ∈ [n, m, 33] from (.tail _ (.tail _ (.head _))))
  simp only [valE, h0, h1]
/-- What holds of two effects: of the registers as they are, and of those that agree in what is read. -/
def Fr (k : Nat) (out : List Int) (tou : Bool) (A B : Eff) (x : Nat → Int) (nf zf cf vf : Bool) : Prop :=
  (A.next = B.next ∧ A.addr = B.addr ∧ A.data = B.data ∧ A.touch = B.touch) ∧
  (∀ q, ((out.contains q && !tou) = false → getX A.x q = getX x q) ∧ ((out.contains q && !tou) = true → getX A.x q = getX B.x q)) ∧
  (out.contains 33 = true → A.nf = B.nf ∧ A.zf = B.zf ∧ A.cf = B.cf ∧ A.vf = B.vf) ∧ (out.contains 33 = false → A.nf = nf ∧ A.zf = zf ∧ A.cf = cf ∧ A.vf = vf)
def touK (k : Nat) : Bool := k == 28 || k == 30 || k == 31 || k == 33 || k == 35 || k == 36
theorem one_fr {d q v w : Int} {x y : Nat → Int} {l : List Int} (hq : ∀ q, l.contains q = true ↔ q = d ∨ q = 33) (hv : v = w) :
    ((l.contains q && !false) = false → getX (setX x d v) q = getX x q) ∧ ((l.contains q && !false) = true → getX (setX x d v) q = getX (setX y d w) q) := by
  subst hv
  rw [Bool.not_false, Bool.and_true]
  refine ⟨fun h => getX_off fun e => ?_, fun h => ?_⟩
  · rw [(hq q).2 (.inl e)] at h; cases h
  · rcases (hq q).1 h with rfl | rfl
    · exact getX_same
    · rw [getX_set, getX_set]
      by_cases h : (33 : Int) = d
      · subst h; rfl
      · rw [if_neg h, if_neg h]; rfl
theorem one_fr' {d q v w : Int} {x y : Nat → Int} {l : List Int} (hq : ∀ q, l.contains q = true ↔ q = d) (hv : v = w) :
    ((l.contains q && !false) = false → getX (setX x d v) q = getX x q) ∧ ((l.contains q && !false) = true → getX (setX x d v) q = getX (setX y d w) q) := by
  subst hv
  rw [Bool.not_false, Bool.and_true]
  refine ⟨fun h => getX_off fun e => ?_, fun h => ?_⟩
  · rw [(hq q).2 e] at h; cases h
  · rw [(hq q).1 h]; exact getX_same
theorem fr_0 (hd : d ≠ 33) (hg : agr x y (inRaw d n m a 0)) (hf : agf (inRaw d n m a 0) nf zf cf vf nf' zf' cf' vf') : Fr 0 (outRaw d 0) (touK 0) (doE 0 x nf zf cf vf d n m a c im pc) (doE 0 y nf' zf' cf' vf' d n m a c im pc) x nf zf cf vf := by
  exact ⟨by refine ⟨?_, ?_, ?_, ?_⟩ <;> simp only [doE], fun q => ⟨fun _ => rfl, fun h => absurd h (by simp [outRaw])⟩, fun h => absurd h (by simp [outRaw]), fun _ => ⟨rfl, rfl, rfl, rfl⟩⟩
theorem fr_1 (hd : d ≠ 33) (hg : agr x y (inRaw d n m a 1)) (hf : agf (inRaw d n m a 1) nf zf cf vf nf' zf' cf' vf') : Fr 1 (outRaw d 1) (touK 1) (doE 1 x nf zf cf vf d n m a c im pc) (doE 1 y nf' zf' cf' vf' d n m a c im pc) x nf zf cf vf := by
  exact ⟨by refine ⟨?_, ?_, ?_, ?_⟩ <;> simp only [doE], fun q => ⟨fun _ => rfl, fun h => absurd h (by simp [outRaw])⟩, fun h => absurd h (by simp [outRaw]), fun _ => ⟨rfl, rfl, rfl, rfl⟩⟩
theorem fr_2 (hd : d ≠ 33) (hg : agr x y (inRaw d n m a 2)) (hf : agf (inRaw d n m a 2) nf zf cf vf nf' zf' cf' vf') : Fr 2 (outRaw d 2) (touK 2) (doE 2 x nf zf cf vf d n m a c im pc) (doE 2 y nf' zf' cf' vf' d n m a c im pc) x nf zf cf vf := by
  have hv := val_2 (c := c) (im := im) hg hf
  refine ⟨by refine ⟨?_, ?_, ?_, ?_⟩ <;> simp only [doE], fun q => ?_, ?_, ?_⟩
  · exact one_fr' (by simp [outRaw]) hv
  · intro h; exact absurd h (by simp [outRaw]; try omega)
  · intro _; exact ⟨rfl, rfl, rfl, rfl⟩
theorem fr_3 (hd : d ≠ 33) (hg : agr x y (inRaw d n m a 3)) (hf : agf (inRaw d n m a 3) nf zf cf vf nf' zf' cf' vf') : Fr 3 (outRaw d 3) (touK 3) (doE 3 x nf zf cf vf d n m a c im pc) (doE 3 y nf' zf' cf' vf' d n m a c im pc) x nf zf cf vf := by
  have hv := val_3 (c := c) (im := im) hg hf
  have h0 : getX x (d) = getX y (d) := hg _ (show d ∈ [d] from (.head _))
  refine ⟨by refine ⟨?_, ?_, ?_, ?_⟩ <;> simp only [doE, h0], fun q => ?_, ?_, ?_⟩
  · exact one_fr' (by simp [outRaw]) hv
  · intro h; exact absurd h (by simp [outRaw]; try omega)
  · intro _; exact ⟨rfl, rfl, rfl, rfl⟩
theorem fr_4 (hd : d ≠ 33) (hg : agr x y (inRaw d n m a 4)) (hf : agf (inRaw d n m a 4) nf zf cf vf nf' zf' cf' vf') : Fr 4 (outRaw d 4) (touK 4) (doE 4 x nf zf cf vf d n m a c im pc) (doE 4 y nf' zf' cf' vf' d n m a c im pc) x nf zf cf vf := by
  have hv := val_4 (c := c) (im := im) hg hf
  have h0 : getX x (stk n) = getX y (stk n) := hg _ (show stk n ∈ [stk n] from (.head _))
  rw [stk_eq] at h0
  refine ⟨by refine ⟨?_, ?_, ?_, ?_⟩ <;> simp only [doE, h0], fun q => ?_, ?_, ?_⟩
  · exact one_fr' (by simp [outRaw, stk_eq]) hv
  · intro h; exact absurd h (by simp [outRaw, stk_eq]; try unfold stkn; try split; all_goals omega)
  · intro _; exact ⟨rfl, rfl, rfl, rfl⟩
theorem fr_5 (hd : d ≠ 33) (hg : agr x y (inRaw d n m a 5)) (hf : agf (inRaw d n m a 5) nf zf cf vf nf' zf' cf' vf') : Fr 5 (outRaw d 5) (touK 5) (doE 5 x nf zf cf vf d n m a c im pc) (doE 5 y nf' zf' cf' vf' d n m a c im pc) x nf zf cf vf := by
  have hv := val_5 (c := c) (im := im) hg hf
  have h0 : getX x (stk n) = getX y (stk n) := hg _ (show stk n ∈ [stk n] from (.head _))
  rw [stk_eq] at h0
  refine ⟨by refine ⟨?_, ?_, ?_, ?_⟩ <;> simp only [doE, h0], fun q => ?_, ?_, ?_⟩
  · exact one_fr' (by simp [outRaw, stk_eq]) hv
  · intro h; exact absurd h (by simp [outRaw, stk_eq]; try unfold stkn; try split; all_goals omega)
  · intro _; exact ⟨rfl, rfl, rfl, rfl⟩
theorem fr_6 (hd : d ≠ 33) (hg : agr x y (inRaw d n m a 6)) (hf : agf (inRaw d n m a 6) nf zf cf vf nf' zf' cf' vf') : Fr 6 (outRaw d 6) (touK 6) (doE 6 x nf zf cf vf d n m a c im pc) (doE 6 y nf' zf' cf' vf' d n m a c im pc) x nf zf cf vf := by
  have hv := val_6 (c := c) (im := im) hg hf
  have h0 : getX x (stk n) = getX y (stk n) := hg _ (show stk n ∈ [stk n] from (.head _))
  rw [stk_eq] at h0
  refine ⟨by refine ⟨?_, ?_, ?_, ?_⟩ <;> simp only [doE, h0], fun q => ?_, ?_, ?_⟩
  · exact one_fr (by simp [outRaw]) hv
  · intro _; refine ⟨?_, ?_, ?_, ?_⟩ <;> simp only [doE, hv, h0]
  · intro h; exact absurd h (by simp [outRaw])
theorem fr_7 (hd : d ≠ 33) (hg : agr x y (inRaw d n m a 7)) (hf : agf (inRaw d n m a 7) nf zf cf vf nf' zf' cf' vf') : Fr 7 (outRaw d 7) (touK 7) (doE 7 x nf zf cf vf d n m a c im pc) (doE 7 y nf' zf' cf' vf' d n m a c im pc) x nf zf cf vf := by
  have hv := val_7 (c := c) (im := im) hg hf
  have h0 : getX x (n) = getX y (n) := hg _ (show n ∈ [n, m] from (.head _))
  have h1 : getX x (m) = getX y (m) := hg _ (show m ∈ [n, m] from (.tail _ (.head _)))
  refine ⟨by refine ⟨?_, ?_, ?_, ?_⟩ <;> simp only [doE, h0, h1], fun q => ?_, ?_, ?_⟩
  · exact one_fr' (by simp [outRaw]) hv
  · intro h; exact absurd h (by simp [outRaw]; try omega)
  · intro _; exact ⟨rfl, rfl, rfl, rfl⟩
theorem fr_8 (hd : d ≠ 33) (hg : agr x y (inRaw d n m a 8)) (hf : agf (inRaw d n m a 8) nf zf cf vf nf' zf' cf' vf') : Fr 8 (outRaw d 8) (touK 8) (doE 8 x nf zf cf vf d n m a c im pc) (doE 8 y nf' zf' cf' vf' d n m a c im pc) x nf zf cf vf := by
  have hv := val_8 (c := c) (im := im) hg hf
  have h0 : getX x (n) = getX y (n) := hg _ (show n ∈ [n, m] from (.head _))
  have h1 : getX x (m) = getX y (m) := hg _ (show m ∈ [n, m] from (.tail _ (.head _)))
  refine ⟨by refine ⟨?_, ?_, ?_, ?_⟩ <;> simp only [doE, h0, h1], fun q => ?_, ?_, ?_⟩
  · exact one_fr' (by simp [outRaw]) hv
  · intro h; exact absurd h (by simp [outRaw]; try omega)
  · intro _; exact ⟨rfl, rfl, rfl, rfl⟩
theorem fr_9 (hd : d ≠ 33) (hg : agr x y (inRaw d n m a 9)) (hf : agf (inRaw d n m a 9) nf zf cf vf nf' zf' cf' vf') : Fr 9 (outRaw d 9) (touK 9) (doE 9 x nf zf cf vf d n m a c im pc) (doE 9 y nf' zf' cf' vf' d n m a c im pc) x nf zf cf vf := by
  have hv := val_9 (c := c) (im := im) hg hf
  have h0 : getX x (n) = getX y (n) := hg _ (show n ∈ [n, m] from (.head _))
  have h1 : getX x (m) = getX y (m) := hg _ (show m ∈ [n, m] from (.tail _ (.head _)))
  refine ⟨by refine ⟨?_, ?_, ?_, ?_⟩ <;> simp only [doE, h0, h1], fun q => ?_, ?_, ?_⟩
  · exact one_fr (by simp [outRaw]) hv
  · intro _; refine ⟨?_, ?_, ?_, ?_⟩ <;> simp only [doE, hv, h0, h1]
  · intro h; exact absurd h (by simp [outRaw])
theorem fr_10 (hd : d ≠ 33) (hg : agr x y (inRaw d n m a 10)) (hf : agf (inRaw d n m a 10) nf zf cf vf nf' zf' cf' vf') : Fr 10 (outRaw d 10) (touK 10) (doE 10 x nf zf cf vf d n m a c im pc) (doE 10 y nf' zf' cf' vf' d n m a c im pc) x nf zf cf vf := by
  have hv := val_10 (c := c) (im := im) hg hf
  have h0 : getX x (n) = getX y (n) := hg _ (show n ∈ [n, m] from (.head _))
  have h1 : getX x (m) = getX y (m) := hg _ (show m ∈ [n, m] from (.tail _ (.head _)))
  refine ⟨by refine ⟨?_, ?_, ?_, ?_⟩ <;> simp only [doE, h0, h1], fun q => ?_, ?_, ?_⟩
  · exact one_fr' (by simp [outRaw]) hv
  · intro h; exact absurd h (by simp [outRaw]; try omega)
  · intro _; exact ⟨rfl, rfl, rfl, rfl⟩
theorem fr_11 (hd : d ≠ 33) (hg : agr x y (inRaw d n m a 11)) (hf : agf (inRaw d n m a 11) nf zf cf vf nf' zf' cf' vf') : Fr 11 (outRaw d 11) (touK 11) (doE 11 x nf zf cf vf d n m a c im pc) (doE 11 y nf' zf' cf' vf' d n m a c im pc) x nf zf cf vf := by
  have hv := val_11 (c := c) (im := im) hg hf
  have h0 : getX x (n) = getX y (n) := hg _ (show n ∈ [n, m] from (.head _))
  have h1 : getX x (m) = getX y (m) := hg _ (show m ∈ [n, m] from (.tail _ (.head _)))
  refine ⟨by refine ⟨?_, ?_, ?_, ?_⟩ <;> simp only [doE, h0, h1], fun q => ?_, ?_, ?_⟩
  · exact one_fr' (by simp [outRaw]) hv
  · intro h; exact absurd h (by simp [outRaw]; try omega)
  · intro _; exact ⟨rfl, rfl, rfl, rfl⟩
theorem fr_12 (hd : d ≠ 33) (hg : agr x y (inRaw d n m a 12)) (hf : agf (inRaw d n m a 12) nf zf cf vf nf' zf' cf' vf') : Fr 12 (outRaw d 12) (touK 12) (doE 12 x nf zf cf vf d n m a c im pc) (doE 12 y nf' zf' cf' vf' d n m a c im pc) x nf zf cf vf := by
  have hv := val_12 (c := c) (im := im) hg hf
  have h0 : getX x (n) = getX y (n) := hg _ (show n ∈ [n, m] from (.head _))
  have h1 : getX x (m) = getX y (m) := hg _ (show m ∈ [n, m] from (.tail _ (.head _)))
  refine ⟨by refine ⟨?_, ?_, ?_, ?_⟩ <;> simp only [doE, h0, h1], fun q => ?_, ?_, ?_⟩
  · exact one_fr' (by simp [outRaw]) hv
  · intro h; exact absurd h (by simp [outRaw]; try omega)
  · intro _; exact ⟨rfl, rfl, rfl, rfl⟩
theorem fr_13 (hd : d ≠ 33) (hg : agr x y (inRaw d n m a 13)) (hf : agf (inRaw d n m a 13) nf zf cf vf nf' zf' cf' vf') : Fr 13 (outRaw d 13) (touK 13) (doE 13 x nf zf cf vf d n m a c im pc) (doE 13 y nf' zf' cf' vf' d n m a c im pc) x nf zf cf vf := by
  have hv := val_13 (c := c) (im := im) hg hf
  have h0 : getX x (n) = getX y (n) := hg _ (show n ∈ [n, m, a] from (.head _))
  have h1 : getX x (m) = getX y (m) := hg _ (show m ∈ [n, m, a] from (.tail _ (.head _)))
  have h2 : getX x (a) = getX y (a) := hg _ (show a ∈ [n, m, a] from (.tail _ (.tail _ (.head _))))
  refine ⟨by refine ⟨?_, ?_, ?_, ?_⟩ <;> simp only [doE, h0, h1, h2], fun q => ?_, ?_, ?_⟩
  · exact one_fr' (by simp [outRaw]) hv
  · intro h; exact absurd h (by simp [outRaw]; try omega)
  · intro _; exact ⟨rfl, rfl, rfl, rfl⟩
theorem fr_14 (hd : d ≠ 33) (hg : agr x y (inRaw d n m a 14)) (hf : agf (inRaw d n m a 14) nf zf cf vf nf' zf' cf' vf') : Fr 14 (outRaw d 14) (touK 14) (doE 14 x nf zf cf vf d n m a c im pc) (doE 14 y nf' zf' cf' vf' d n m a c im pc) x nf zf cf vf := by
  have hv := val_14 (c := c) (im := im) hg hf
  have h0 : getX x (n) = getX y (n) := hg _ (show n ∈ [n, m, a] from (.head _))
  have h1 : getX x (m) = getX y (m) := hg _ (show m ∈ [n, m, a] from (.tail _ (.head _)))
  have h2 : getX x (a) = getX y (a) := hg _ (show a ∈ [n, m, a] from (.tail _ (.tail _ (.head _))))
  refine ⟨by refine ⟨?_, ?_, ?_, ?_⟩ <;> simp only [doE, h0, h1, h2], fun q => ?_, ?_, ?_⟩
  · exact one_fr' (by simp [outRaw]) hv
  · intro h; exact absurd h (by simp [outRaw]; try omega)
  · intro _; exact ⟨rfl, rfl, rfl, rfl⟩
theorem fr_15 (hd : d ≠ 33) (hg : agr x y (inRaw d n m a 15)) (hf : agf (inRaw d n m a 15) nf zf cf vf nf' zf' cf' vf') : Fr 15 (outRaw d 15) (touK 15) (doE 15 x nf zf cf vf d n m a c im pc) (doE 15 y nf' zf' cf' vf' d n m a c im pc) x nf zf cf vf := by
  have hv := val_15 (c := c) (im := im) hg hf
  have h0 : getX x (n) = getX y (n) := hg _ (show n ∈ [n, m] from (.head _))
  have h1 : getX x (m) = getX y (m) := hg _ (show m ∈ [n, m] from (.tail _ (.head _)))
  refine ⟨by refine ⟨?_, ?_, ?_, ?_⟩ <;> simp only [doE, h0, h1], fun q => ?_, ?_, ?_⟩
  · exact one_fr' (by simp [outRaw]) hv
  · intro h; exact absurd h (by simp [outRaw]; try omega)
  · intro _; exact ⟨rfl, rfl, rfl, rfl⟩
theorem fr_16 (hd : d ≠ 33) (hg : agr x y (inRaw d n m a 16)) (hf : agf (inRaw d n m a 16) nf zf cf vf nf' zf' cf' vf') : Fr 16 (outRaw d 16) (touK 16) (doE 16 x nf zf cf vf d n m a c im pc) (doE 16 y nf' zf' cf' vf' d n m a c im pc) x nf zf cf vf := by
  have hv := val_16 (c := c) (im := im) hg hf
  have h0 : getX x (n) = getX y (n) := hg _ (show n ∈ [n, m] from (.head _))
  have h1 : getX x (m) = getX y (m) := hg _ (show m ∈ [n, m] from (.tail _ (.head _)))
  refine ⟨by refine ⟨?_, ?_, ?_, ?_⟩ <;> simp only [doE, h0, h1], fun q => ?_, ?_, ?_⟩
  · exact one_fr' (by simp [outRaw]) hv
  · intro h; exact absurd h (by simp [outRaw]; try omega)
  · intro _; exact ⟨rfl, rfl, rfl, rfl⟩
theorem fr_17 (hd : d ≠ 33) (hg : agr x y (inRaw d n m a 17)) (hf : agf (inRaw d n m a 17) nf zf cf vf nf' zf' cf' vf') : Fr 17 (outRaw d 17) (touK 17) (doE 17 x nf zf cf vf d n m a c im pc) (doE 17 y nf' zf' cf' vf' d n m a c im pc) x nf zf cf vf := by
  have hv := val_17 (c := c) (im := im) hg hf
  have h0 : getX x (n) = getX y (n) := hg _ (show n ∈ [n, m] from (.head _))
  have h1 : getX x (m) = getX y (m) := hg _ (show m ∈ [n, m] from (.tail _ (.head _)))
  refine ⟨by refine ⟨?_, ?_, ?_, ?_⟩ <;> simp only [doE, h0, h1], fun q => ?_, ?_, ?_⟩
  · exact one_fr' (by simp [outRaw]) hv
  · intro h; exact absurd h (by simp [outRaw]; try omega)
  · intro _; exact ⟨rfl, rfl, rfl, rfl⟩
theorem fr_18 (hd : d ≠ 33) (hg : agr x y (inRaw d n m a 18)) (hf : agf (inRaw d n m a 18) nf zf cf vf nf' zf' cf' vf') : Fr 18 (outRaw d 18) (touK 18) (doE 18 x nf zf cf vf d n m a c im pc) (doE 18 y nf' zf' cf' vf' d n m a c im pc) x nf zf cf vf := by
  have hv := val_18 (c := c) (im := im) hg hf
  have h0 : getX x (n) = getX y (n) := hg _ (show n ∈ [n, m] from (.head _))
  have h1 : getX x (m) = getX y (m) := hg _ (show m ∈ [n, m] from (.tail _ (.head _)))
  refine ⟨by refine ⟨?_, ?_, ?_, ?_⟩ <;> simp only [doE, h0, h1], fun q => ?_, ?_, ?_⟩
  · exact one_fr' (by simp [outRaw]) hv
  · intro h; exact absurd h (by simp [outRaw]; try omega)
  · intro _; exact ⟨rfl, rfl, rfl, rfl⟩
theorem fr_19 (hd : d ≠ 33) (hg : agr x y (inRaw d n m a 19)) (hf : agf (inRaw d n m a 19) nf zf cf vf nf' zf' cf' vf') : Fr 19 (outRaw d 19) (touK 19) (doE 19 x nf zf cf vf d n m a c im pc) (doE 19 y nf' zf' cf' vf' d n m a c im pc) x nf zf cf vf := by
  have hv := val_19 (c := c) (im := im) hg hf
  have h0 : getX x (n) = getX y (n) := hg _ (show n ∈ [n, m, 33] from (.head _))
  have h1 : getX x (m) = getX y (m) := hg _ (show m ∈ [n, m, 33] from (.tail _ (.head _)))
  obtain ⟨rfl, rfl, rfl, rfl⟩ := hf (show (33 : Int) ∈ [n, m, 33] from (.tail _ (.tail _ (.head _))))
  refine ⟨by refine ⟨?_, ?_, ?_, ?_⟩ <;> simp only [doE, h0, h1], fun q => ?_, ?_, ?_⟩
  · exact one_fr' (by simp [outRaw]) hv
  · intro h; exact absurd h (by simp [outRaw]; try omega)
  · intro _; exact ⟨rfl, rfl, rfl, rfl⟩
theorem fr_20 (hd : d ≠ 33) (hg : agr x y (inRaw d n m a 20)) (hf : agf (inRaw d n m a 20) nf zf cf vf nf' zf' cf' vf') : Fr 20 (outRaw d 20) (touK 20) (doE 20 x nf zf cf vf d n m a c im pc) (doE 20 y nf' zf' cf' vf' d n m a c im pc) x nf zf cf vf := by
  exact ⟨by refine ⟨?_, ?_, ?_, ?_⟩ <;> simp only [doE], fun q => ⟨fun _ => rfl, fun h => absurd h (by simp [outRaw])⟩, fun h => absurd h (by simp [outRaw]), fun _ => ⟨rfl, rfl, rfl, rfl⟩⟩
theorem fr_21 (hd : d ≠ 33) (hg : agr x y (inRaw d n m a 21)) (hf : agf (inRaw d n m a 21) nf zf cf vf nf' zf' cf' vf') : Fr 21 (outRaw d 21) (touK 21) (doE 21 x nf zf cf vf d n m a c im pc) (doE 21 y nf' zf' cf' vf' d n m a c im pc) x nf zf cf vf := by
  obtain ⟨rfl, rfl, rfl, rfl⟩ := hf (show (33 : Int) ∈ [33] from (.head _))
  exact ⟨by refine ⟨?_, ?_, ?_, ?_⟩ <;> simp only [doE], fun q => ⟨fun _ => rfl, fun h => absurd h (by simp [outRaw])⟩, fun h => absurd h (by simp [outRaw]), fun _ => ⟨rfl, rfl, rfl, rfl⟩⟩
theorem fr_22 (hd : d ≠ 33) (hg : agr x y (inRaw d n m a 22)) (hf : agf (inRaw d n m a 22) nf zf cf vf nf' zf' cf' vf') : Fr 22 (outRaw d 22) (touK 22) (doE 22 x nf zf cf vf d n m a c im pc) (doE 22 y nf' zf' cf' vf' d n m a c im pc) x nf zf cf vf := by
  have h0 : getX x (d) = getX y (d) := hg _ (show d ∈ [d] from (.head _))
  exact ⟨by refine ⟨?_, ?_, ?_, ?_⟩ <;> simp only [doE, h0], fun q => ⟨fun _ => rfl, fun h => absurd h (by simp [outRaw])⟩, fun h => absurd h (by simp [outRaw]), fun _ => ⟨rfl, rfl, rfl, rfl⟩⟩
theorem fr_23 (hd : d ≠ 33) (hg : agr x y (inRaw d n m a 23)) (hf : agf (inRaw d n m a 23) nf zf cf vf nf' zf' cf' vf') : Fr 23 (outRaw d 23) (touK 23) (doE 23 x nf zf cf vf d n m a c im pc) (doE 23 y nf' zf' cf' vf' d n m a c im pc) x nf zf cf vf := by
  have h0 : getX x (d) = getX y (d) := hg _ (show d ∈ [d] from (.head _))
  exact ⟨by refine ⟨?_, ?_, ?_, ?_⟩ <;> simp only [doE, h0], fun q => ⟨fun _ => rfl, fun h => absurd h (by simp [outRaw])⟩, fun h => absurd h (by simp [outRaw]), fun _ => ⟨rfl, rfl, rfl, rfl⟩⟩
theorem fr_24 (hd : d ≠ 33) (hg : agr x y (inRaw d n m a 24)) (hf : agf (inRaw d n m a 24) nf zf cf vf nf' zf' cf' vf') : Fr 24 (outRaw d 24) (touK 24) (doE 24 x nf zf cf vf d n m a c im pc) (doE 24 y nf' zf' cf' vf' d n m a c im pc) x nf zf cf vf := by
  refine ⟨by refine ⟨?_, ?_, ?_, ?_⟩ <;> simp only [doE], fun q => ?_, ?_, ?_⟩
  · simp only [doE, upX_eq]
    exact one_fr' (by simp [outRaw]) rfl
  · intro h; exact absurd h (by simp [outRaw]; try omega)
  · intro _; exact ⟨rfl, rfl, rfl, rfl⟩
theorem fr_25 (hd : d ≠ 33) (hg : agr x y (inRaw d n m a 25)) (hf : agf (inRaw d n m a 25) nf zf cf vf nf' zf' cf' vf') : Fr 25 (outRaw d 25) (touK 25) (doE 25 x nf zf cf vf d n m a c im pc) (doE 25 y nf' zf' cf' vf' d n m a c im pc) x nf zf cf vf := by
  have h0 : getX x (n) = getX y (n) := hg _ (show n ∈ [n] from (.head _))
  exact ⟨by refine ⟨?_, ?_, ?_, ?_⟩ <;> simp only [doE, h0], fun q => ⟨fun _ => rfl, fun h => absurd h (by simp [outRaw])⟩, fun h => absurd h (by simp [outRaw]), fun _ => ⟨rfl, rfl, rfl, rfl⟩⟩
theorem fr_26 (hd : d ≠ 33) (hg : agr x y (inRaw d n m a 26)) (hf : agf (inRaw d n m a 26) nf zf cf vf nf' zf' cf' vf') : Fr 26 (outRaw d 26) (touK 26) (doE 26 x nf zf cf vf d n m a c im pc) (doE 26 y nf' zf' cf' vf' d n m a c im pc) x nf zf cf vf := by
  have h0 : getX x (n) = getX y (n) := hg _ (show n ∈ [n] from (.head _))
  refine ⟨by refine ⟨?_, ?_, ?_, ?_⟩ <;> simp only [doE, h0], fun q => ?_, ?_, ?_⟩
  · simp only [doE, upX_eq]
    exact one_fr' (by simp [outRaw]) rfl
  · intro h; exact absurd h (by simp [outRaw]; try omega)
  · intro _; exact ⟨rfl, rfl, rfl, rfl⟩
theorem fr_27 (hd : d ≠ 33) (hg : agr x y (inRaw d n m a 27)) (hf : agf (inRaw d n m a 27) nf zf cf vf nf' zf' cf' vf') : Fr 27 (outRaw d 27) (touK 27) (doE 27 x nf zf cf vf d n m a c im pc) (doE 27 y nf' zf' cf' vf' d n m a c im pc) x nf zf cf vf := by
  have h0 : getX x (n) = getX y (n) := hg _ (show n ∈ [n] from (.head _))
  exact ⟨by refine ⟨?_, ?_, ?_, ?_⟩ <;> simp only [doE, h0], fun q => ⟨fun _ => rfl, fun h => absurd h (by simp [outRaw])⟩, fun h => absurd h (by simp [outRaw]), fun _ => ⟨rfl, rfl, rfl, rfl⟩⟩
theorem fr_28 (hd : d ≠ 33) (hg : agr x y (inRaw d n m a 28)) (hf : agf (inRaw d n m a 28) nf zf cf vf nf' zf' cf' vf') : Fr 28 (outRaw d 28) (touK 28) (doE 28 x nf zf cf vf d n m a c im pc) (doE 28 y nf' zf' cf' vf' d n m a c im pc) x nf zf cf vf := by
  have h0 : getX x (stk n) = getX y (stk n) := hg _ (show stk n ∈ [stk n] from (.head _))
  rw [stk_eq] at h0
  exact ⟨by refine ⟨?_, ?_, ?_, ?_⟩ <;> simp only [doE, h0], fun q => ⟨fun _ => rfl, fun h => absurd h (by simp [outRaw, touK])⟩, fun h => absurd h (by simp [outRaw]; omega), fun _ => ⟨rfl, rfl, rfl, rfl⟩⟩
theorem fr_29 (hd : d ≠ 33) (hg : agr x y (inRaw d n m a 29)) (hf : agf (inRaw d n m a 29) nf zf cf vf nf' zf' cf' vf') : Fr 29 (outRaw d 29) (touK 29) (doE 29 x nf zf cf vf d n m a c im pc) (doE 29 y nf' zf' cf' vf' d n m a c im pc) x nf zf cf vf := by
  have h0 : getX x (stk n) = getX y (stk n) := hg _ (show stk n ∈ [stk n, d] from (.head _))
  rw [stk_eq] at h0
  have h1 : getX x (d) = getX y (d) := hg _ (show d ∈ [stk n, d] from (.tail _ (.head _)))
  exact ⟨by refine ⟨?_, ?_, ?_, ?_⟩ <;> simp only [doE, h0, h1], fun q => ⟨fun _ => rfl, fun h => absurd h (by simp [outRaw])⟩, fun h => absurd h (by simp [outRaw]), fun _ => ⟨rfl, rfl, rfl, rfl⟩⟩
theorem fr_30 (hd : d ≠ 33) (hg : agr x y (inRaw d n m a 30)) (hf : agf (inRaw d n m a 30) nf zf cf vf nf' zf' cf' vf') : Fr 30 (outRaw d 30) (touK 30) (doE 30 x nf zf cf vf d n m a c im pc) (doE 30 y nf' zf' cf' vf' d n m a c im pc) x nf zf cf vf := by
  have h0 : getX x (stk n) = getX y (stk n) := hg _ (show stk n ∈ [stk n] from (.head _))
  rw [stk_eq] at h0
  exact ⟨by refine ⟨?_, ?_, ?_, ?_⟩ <;> simp only [doE, h0], fun q => ⟨fun _ => rfl, fun h => absurd h (by simp [outRaw, touK])⟩, fun h => absurd h (by simp [outRaw]; omega), fun _ => ⟨rfl, rfl, rfl, rfl⟩⟩
theorem fr_31 (hd : d ≠ 33) (hg : agr x y (inRaw d n m a 31)) (hf : agf (inRaw d n m a 31) nf zf cf vf nf' zf' cf' vf') : Fr 31 (outRaw d 31) (touK 31) (doE 31 x nf zf cf vf d n m a c im pc) (doE 31 y nf' zf' cf' vf' d n m a c im pc) x nf zf cf vf := by
  have h0 : getX x (stk n) = getX y (stk n) := hg _ (show stk n ∈ [stk n, m] from (.head _))
  rw [stk_eq] at h0
  have h1 : getX x (m) = getX y (m) := hg _ (show m ∈ [stk n, m] from (.tail _ (.head _)))
  exact ⟨by refine ⟨?_, ?_, ?_, ?_⟩ <;> simp only [doE, h0, h1], fun q => ⟨fun _ => rfl, fun h => absurd h (by simp [outRaw, touK])⟩, fun h => absurd h (by simp [outRaw]; omega), fun _ => ⟨rfl, rfl, rfl, rfl⟩⟩
theorem fr_32 (hd : d ≠ 33) (hg : agr x y (inRaw d n m a 32)) (hf : agf (inRaw d n m a 32) nf zf cf vf nf' zf' cf' vf') : Fr 32 (outRaw d 32) (touK 32) (doE 32 x nf zf cf vf d n m a c im pc) (doE 32 y nf' zf' cf' vf' d n m a c im pc) x nf zf cf vf := by
  have h0 : getX x (stk n) = getX y (stk n) := hg _ (show stk n ∈ [stk n, m, d] from (.head _))
  rw [stk_eq] at h0
  have h1 : getX x (m) = getX y (m) := hg _ (show m ∈ [stk n, m, d] from (.tail _ (.head _)))
  have h2 : getX x (d) = getX y (d) := hg _ (show d ∈ [stk n, m, d] from (.tail _ (.tail _ (.head _))))
  exact ⟨by refine ⟨?_, ?_, ?_, ?_⟩ <;> simp only [doE, h0, h1, h2], fun q => ⟨fun _ => rfl, fun h => absurd h (by simp [outRaw])⟩, fun h => absurd h (by simp [outRaw]), fun _ => ⟨rfl, rfl, rfl, rfl⟩⟩
theorem fr_33 (hd : d ≠ 33) (hg : agr x y (inRaw d n m a 33)) (hf : agf (inRaw d n m a 33) nf zf cf vf nf' zf' cf' vf') : Fr 33 (outRaw d 33) (touK 33) (doE 33 x nf zf cf vf d n m a c im pc) (doE 33 y nf' zf' cf' vf' d n m a c im pc) x nf zf cf vf := by
  have h0 : getX x (stk n) = getX y (stk n) := hg _ (show stk n ∈ [stk n] from (.head _))
  rw [stk_eq] at h0
  exact ⟨by refine ⟨?_, ?_, ?_, ?_⟩ <;> simp only [doE, h0], fun q => ⟨fun _ => rfl, fun h => absurd h (by simp [outRaw, touK])⟩, fun h => absurd h (by simp [outRaw]; omega), fun _ => ⟨rfl, rfl, rfl, rfl⟩⟩
theorem fr_34 (hd : d ≠ 33) (hg : agr x y (inRaw d n m a 34)) (hf : agf (inRaw d n m a 34) nf zf cf vf nf' zf' cf' vf') : Fr 34 (outRaw d 34) (touK 34) (doE 34 x nf zf cf vf d n m a c im pc) (doE 34 y nf' zf' cf' vf' d n m a c im pc) x nf zf cf vf := by
  have h0 : getX x (stk n) = getX y (stk n) := hg _ (show stk n ∈ [stk n, d] from (.head _))
  rw [stk_eq] at h0
  have h1 : getX x (d) = getX y (d) := hg _ (show d ∈ [stk n, d] from (.tail _ (.head _)))
  exact ⟨by refine ⟨?_, ?_, ?_, ?_⟩ <;> simp only [doE, h0, h1], fun q => ⟨fun _ => rfl, fun h => absurd h (by simp [outRaw])⟩, fun h => absurd h (by simp [outRaw]), fun _ => ⟨rfl, rfl, rfl, rfl⟩⟩
theorem fr_35 (hd : d ≠ 33) (hg : agr x y (inRaw d n m a 35)) (hf : agf (inRaw d n m a 35) nf zf cf vf nf' zf' cf' vf') : Fr 35 (outRaw d 35) (touK 35) (doE 35 x nf zf cf vf d n m a c im pc) (doE 35 y nf' zf' cf' vf' d n m a c im pc) x nf zf cf vf := by
  have h0 : getX x (stk n) = getX y (stk n) := hg _ (show stk n ∈ [stk n] from (.head _))
  rw [stk_eq] at h0
  exact ⟨by refine ⟨?_, ?_, ?_, ?_⟩ <;> simp only [doE, h0], fun q => ⟨fun _ => rfl, fun h => absurd h (by simp [outRaw, touK])⟩, fun h => absurd h (by simp [outRaw]; omega), fun _ => ⟨rfl, rfl, rfl, rfl⟩⟩
theorem fr_36 (hd : d ≠ 33) (hg : agr x y (inRaw d n m a 36)) (hf : agf (inRaw d n m a 36) nf zf cf vf nf' zf' cf' vf') : Fr 36 (outRaw d 36) (touK 36) (doE 36 x nf zf cf vf d n m a c im pc) (doE 36 y nf' zf' cf' vf' d n m a c im pc) x nf zf cf vf := by
  have h0 : getX x (stk n) = getX y (stk n) := hg _ (show stk n ∈ [stk n, m] from (.head _))
  rw [stk_eq] at h0
  have h1 : getX x (m) = getX y (m) := hg _ (show m ∈ [stk n, m] from (.tail _ (.head _)))
  exact ⟨by refine ⟨?_, ?_, ?_, ?_⟩ <;> simp only [doE, h0, h1], fun q => ⟨fun _ => rfl, fun h => absurd h (by simp [outRaw, touK])⟩, fun h => absurd h (by simp [outRaw]; omega), fun _ => ⟨rfl, rfl, rfl, rfl⟩⟩
theorem fr_37 (hd : d ≠ 33) (hg : agr x y (inRaw d n m a 37)) (hf : agf (inRaw d n m a 37) nf zf cf vf nf' zf' cf' vf') : Fr 37 (outRaw d 37) (touK 37) (doE 37 x nf zf cf vf d n m a c im pc) (doE 37 y nf' zf' cf' vf' d n m a c im pc) x nf zf cf vf := by
  exact ⟨by refine ⟨?_, ?_, ?_, ?_⟩ <;> simp only [doE], fun q => ⟨fun _ => rfl, fun h => absurd h (by simp [outRaw])⟩, fun h => absurd h (by simp [outRaw]), fun _ => ⟨rfl, rfl, rfl, rfl⟩⟩
theorem fr_38 (hd : d ≠ 33) (hg : agr x y (inRaw d n m a 38)) (hf : agf (inRaw d n m a 38) nf zf cf vf nf' zf' cf' vf') : Fr 38 (outRaw d 38) (touK 38) (doE 38 x nf zf cf vf d n m a c im pc) (doE 38 y nf' zf' cf' vf' d n m a c im pc) x nf zf cf vf := by
  exact ⟨by refine ⟨?_, ?_, ?_, ?_⟩ <;> simp only [doE], fun q => ⟨fun _ => rfl, fun h => absurd h (by simp [outRaw])⟩, fun h => absurd h (by simp [outRaw]), fun _ => ⟨rfl, rfl, rfl, rfl⟩⟩
theorem fr_39 (hd : d ≠ 33) (hg : agr x y (inRaw d n m a 39)) (hf : agf (inRaw d n m a 39) nf zf cf vf nf' zf' cf' vf') : Fr 39 (outRaw d 39) (touK 39) (doE 39 x nf zf cf vf d n m a c im pc) (doE 39 y nf' zf' cf' vf' d n m a c im pc) x nf zf cf vf := by
  exact ⟨by refine ⟨?_, ?_, ?_, ?_⟩ <;> simp only [doE], fun q => ⟨fun _ => rfl, fun h => absurd h (by simp [outRaw])⟩, fun h => absurd h (by simp [outRaw]), fun _ => ⟨rfl, rfl, rfl, rfl⟩⟩
theorem fr_40 (hd : d ≠ 33) (hg : agr x y (inRaw d n m a 40)) (hf : agf (inRaw d n m a 40) nf zf cf vf nf' zf' cf' vf') : Fr 40 (outRaw d 40) (touK 40) (doE 40 x nf zf cf vf d n m a c im pc) (doE 40 y nf' zf' cf' vf' d n m a c im pc) x nf zf cf vf := by
  have h0 : getX x (n) = getX y (n) := hg _ (show n ∈ [n] from (.head _))
  exact ⟨by refine ⟨?_, ?_, ?_, ?_⟩ <;> simp only [doE, h0], fun q => ⟨fun _ => rfl, fun h => absurd h (by simp [outRaw])⟩, fun h => absurd h (by simp [outRaw]), fun _ => ⟨rfl, rfl, rfl, rfl⟩⟩
theorem fr_41 (hd : d ≠ 33) (hg : agr x y (inRaw d n m a 41)) (hf : agf (inRaw d n m a 41) nf zf cf vf nf' zf' cf' vf') : Fr 41 (outRaw d 41) (touK 41) (doE 41 x nf zf cf vf d n m a c im pc) (doE 41 y nf' zf' cf' vf' d n m a c im pc) x nf zf cf vf := by
  have h0 : getX x (n) = getX y (n) := hg _ (show n ∈ [n] from (.head _))
  exact ⟨by refine ⟨?_, ?_, ?_, ?_⟩ <;> simp only [doE, h0], fun q => ⟨fun _ => rfl, fun h => absurd h (by simp [outRaw])⟩, fun h => absurd h (by simp [outRaw]), fun _ => ⟨rfl, rfl, rfl, rfl⟩⟩
theorem fr_42 (hd : d ≠ 33) (hg : agr x y (inRaw d n m a 42)) (hf : agf (inRaw d n m a 42) nf zf cf vf nf' zf' cf' vf') : Fr 42 (outRaw d 42) (touK 42) (doE 42 x nf zf cf vf d n m a c im pc) (doE 42 y nf' zf' cf' vf' d n m a c im pc) x nf zf cf vf := by
  exact ⟨by refine ⟨?_, ?_, ?_, ?_⟩ <;> simp only [doE], fun q => ⟨fun _ => rfl, fun h => absurd h (by simp [outRaw])⟩, fun h => absurd h (by simp [outRaw]), fun _ => ⟨rfl, rfl, rfl, rfl⟩⟩
theorem fr_all : ∀ k : Nat, k < 43 → d ≠ 33 → agr x y (inRaw d n m a k) → agf (inRaw d n m a k) nf zf cf vf nf' zf' cf' vf' → Fr k (outRaw d k) (touK k) (doE k x nf zf cf vf d n m a c im pc) (doE k y nf' zf' cf' vf' d n m a c im pc) x nf zf cf vf
  | 0, _, hd, hg, hf => fr_0 hd hg hf
  | 1, _, hd, hg, hf => fr_1 hd hg hf
  | 2, _, hd, hg, hf => fr_2 hd hg hf
  | 3, _, hd, hg, hf => fr_3 hd hg hf
  | 4, _, hd, hg, hf => fr_4 hd hg hf
  | 5, _, hd, hg, hf => fr_5 hd hg hf
  | 6, _, hd, hg, hf => fr_6 hd hg hf
  | 7, _, hd, hg, hf => fr_7 hd hg hf
  | 8, _, hd, hg, hf => fr_8 hd hg hf
  | 9, _, hd, hg, hf => fr_9 hd hg hf
  | 10, _, hd, hg, hf => fr_10 hd hg hf
  | 11, _, hd, hg, hf => fr_11 hd hg hf
  | 12, _, hd, hg, hf => fr_12 hd hg hf
  | 13, _, hd, hg, hf => fr_13 hd hg hf
  | 14, _, hd, hg, hf => fr_14 hd hg hf
  | 15, _, hd, hg, hf => fr_15 hd hg hf
  | 16, _, hd, hg, hf => fr_16 hd hg hf
  | 17, _, hd, hg, hf => fr_17 hd hg hf
  | 18, _, hd, hg, hf => fr_18 hd hg hf
  | 19, _, hd, hg, hf => fr_19 hd hg hf
  | 20, _, hd, hg, hf => fr_20 hd hg hf
  | 21, _, hd, hg, hf => fr_21 hd hg hf
  | 22, _, hd, hg, hf => fr_22 hd hg hf
  | 23, _, hd, hg, hf => fr_23 hd hg hf
  | 24, _, hd, hg, hf => fr_24 hd hg hf
  | 25, _, hd, hg, hf => fr_25 hd hg hf
  | 26, _, hd, hg, hf => fr_26 hd hg hf
  | 27, _, hd, hg, hf => fr_27 hd hg hf
  | 28, _, hd, hg, hf => fr_28 hd hg hf
  | 29, _, hd, hg, hf => fr_29 hd hg hf
  | 30, _, hd, hg, hf => fr_30 hd hg hf
  | 31, _, hd, hg, hf => fr_31 hd hg hf
  | 32, _, hd, hg, hf => fr_32 hd hg hf
  | 33, _, hd, hg, hf => fr_33 hd hg hf
  | 34, _, hd, hg, hf => fr_34 hd hg hf
  | 35, _, hd, hg, hf => fr_35 hd hg hf
  | 36, _, hd, hg, hf => fr_36 hd hg hf
  | 37, _, hd, hg, hf => fr_37 hd hg hf
  | 38, _, hd, hg, hf => fr_38 hd hg hf
  | 39, _, hd, hg, hf => fr_39 hd hg hf
  | 40, _, hd, hg, hf => fr_40 hd hg hf
  | 41, _, hd, hg, hf => fr_41 hd hg hf
  | 42, _, hd, hg, hf => fr_42 hd hg hf
  | k + 43, h, _, _, _ => absurd h (by omega)
end
end Go.Proofs.Ytolohpkjpgbahaa.semFrames
end
section
/- SemFrames: registers that agree in what is read. -/
set_option linter.unusedVariables false
set_option linter.unusedSimpArgs false
set_option maxRecDepth 100000
namespace Go.Proofs.Ytolohpkjpgbahaa.semFrames
open Go Go.Proofs Go.Proofs.YtolohpkjpgbahaaRL Go.Proofs.Ytolohpkjpgbahaa.isa
theorem mem_sort {q : Int} : ∀ {l : List Int}, q ∈ sortL l ↔ q ∈ l
  | [] => Iff.rfl
  | [_] => Iff.rfl
  | [a, b] => by
    show q ∈ (if b < a then [b, a] else [a, b]) ↔ _
    split <;> simp only [List.mem_cons, List.not_mem_nil, or_false] <;> grind
  | [a, b, c] => by
    show q ∈ (if b < a then (if c < a then (if c < b then [c, b, a] else [b, c, a]) else [b, a, c]) else (if c < b then (if c < a then [c, a, b] else [a, c, b]) else [a, b, c])) ↔ _
    split <;> split <;> (try split) <;> simp only [List.mem_cons, List.not_mem_nil, or_false] <;> grind
  | _ :: _ :: _ :: _ :: _ => Iff.rfl
theorem mem_ded {q : Int} : ∀ {l : List Int}, q ∈ dedL l ↔ q ∈ l
  | [] => Iff.rfl
  | [_] => Iff.rfl
  | [a, b] => by
    show q ∈ (if b = a then [a] else [a, b]) ↔ _
    split <;> simp only [List.mem_cons, List.not_mem_nil, or_false] <;> grind
  | [a, b, c] => by
    show q ∈ (if b = a then (if c = b then [a] else [a, c]) else (if c = b then [a, b] else [a, b, c])) ↔ _
    split <;> split <;> simp only [List.mem_cons, List.not_mem_nil, or_false] <;> grind
  | _ :: _ :: _ :: _ :: _ => Iff.rfl
theorem mem_plain {q : Int} {l : List Int} : q ∈ plainL l ↔ q ∈ l ∧ q ≠ 31 := by
  unfold plainL filtL
  rw [List.mem_filter, mem_ded, mem_sort]
  simp
/-- Registers o, but those of a list as in r. -/
def mX (r : Nat → Int) : (Nat → Int) → List Int → Nat → Int
  | o, [] => o
  | o, q :: l => mX r (match q == 33 with | true => o | false => setX (norm o) q (getX (norm r) q)) l
theorem mX_get {r : Nat → Int} {q : Int} : ∀ {l : List Int} {o : Nat → Int}, (getX o q = getX r q ∨ q ∈ l) → getX (mX r o l) q = getX r q
  | [], o, h => h.resolve_right (fun h => by cases h)
  | p :: l, o, h => by
    unfold mX
    refine mX_get ?_
    cases e : p == 33 with
    | true =>
      have : p = 33 := by simpa using e
      subst this
      rcases h with h | h
      · exact .inl h
      · rcases List.mem_cons.1 h with rfl | h
        · exact .inl rfl
        · exact .inr h
    | false =>
      rcases h with h | h
      · rw [norm_get]; exact .inl (getX_back (.inr (by rw [norm_get]; exact h)))
      · rcases List.mem_cons.1 h with h | h
        · rw [norm_get]; exact .inl (getX_back (.inl h))
        · exact .inr h
theorem agr_m {r o : Nat → Int} {l : List Int} : agr r (mX r o (plainL l)) l := fun q hq => by
  by_cases h : q = 31
  · subst h; rfl
  · exact (mX_get (.inr (mem_plain.2 ⟨hq, h⟩))).symm
theorem cont_plain {q : Int} {l : List Int} : (plainL l).contains q = (l.contains q && !(q == 31)) := by
  apply Bool.eq_iff_iff.2
  simp [mem_plain]
theorem Fr.plain {k : Nat} {out : List Int} {tou : Bool} {A B : Eff} {x : Nat → Int} {nf zf cf vf : Bool} (h : Fr k out tou A B x nf zf cf vf) : Fr k (plainL out) tou A B x nf zf cf vf := by
  obtain ⟨h1, h2, h3, h4⟩ := h
  have e : (plainL out).contains 33 = out.contains 33 := by rw [cont_plain]; simp
  refine ⟨h1, fun q => ?_, fun h => h3 (e ▸ h), fun h => h4 (e ▸ h)⟩
  by_cases hq : q = 31
  · subst hq
    exact ⟨fun _ => rfl, fun _ => rfl⟩
  · have : (plainL out).contains q = out.contains q := by rw [cont_plain]; simp [hq]
    rw [this]; exact h2 q
end Go.Proofs.Ytolohpkjpgbahaa.semFrames
end
section
/- SemFrames: known() and a64.Load as table lines. -/
set_option linter.unusedVariables false
set_option linter.unusedSimpArgs false
set_option maxRecDepth 1000000
namespace Go.Proofs.Ytolohpkjpgbahaa.semFrames
open Go Go.Proofs Go.Proofs.YtolohpkjpgbahaaRL Go.Proofs.Ytolohpkjpgbahaa.isa
abbrev bV (b : Bool) : V := .raw (.bool b)
theorem kn_eq (K : V → Prop) : callG Try.prog noE 400 8 [] [] (rK K) = K (bV true) := by kernel_rfl
theorem kn_ok : CallOk Try.prog 8 [] [] fun r _ => r = .ret (bV true) := by
  refine (callG_ok noE_ok names mixed (n := 400) (K := rK fun v => v = bV true) ?_).mono rK_ok
  rw [kn_eq]
def knG : List V → Option V
  | [] => some (bV true)
  | _ => none
theorem knG_ok {E : Eh} (hE : EOk Try.prog E) : EOk Try.prog (specE 8 knG E) := by
  refine specE_ok hE fun args v h => ?_
  unfold knG at h
  split at h
  · cases h; exact ⟨trivial, trivial, kn_ok⟩
  · cases h
def loadP (op : Int) : Bool := decide (op = 28 ∨ op = 30 ∨ op = 31 ∨ op = 33 ∨ op = 35)
def load_f (op : Int) (K : V → Prop) : Prop := Br (op == 28) (K (bV true)) (Br (op == 30) (K (bV true)) (Br (op == 31) (K (bV true)) (Br (op == 33) (K (bV true)) (K (bV (op == 35))))))
theorem load_eq (op : Int) (K : V → Prop) : callG Try.prog noE 100 19 [.raw (.int .i64 op)] [] (rK K) = load_f op K := by kernel_rfl
theorem load_ok (op : Int) : CallOk Try.prog 19 [.raw (.int .i64 op)] [] fun r _ => r = .ret (bV (loadP op)) := by
  refine (callG_ok noE_ok names mixed (n := 100) (K := rK fun v => v = bV (loadP op)) ?_).mono rK_ok
  have hp := load_eq op fun v => v = bV (loadP op)
  refine hp.mpr ?_
  unfold load_f loadP
  by_cases h1 : op = 28
  · subst h1; rfl
  by_cases h2 : op = 30
  · subst h2; rfl
  by_cases h3 : op = 31
  · subst h3; rfl
  by_cases h4 : op = 33
  · subst h4; rfl
  rw [show (op == 28) = false from by simpa using h1, show (op == 30) = false from by simpa using h2, show (op == 31) = false from by simpa using h3, show (op == 33) = false from by simpa using h4]
  show bV (op == 35) = bV _
  refine congrArg bV ?_
  by_cases h5 : op = 35
  · subst h5; rfl
  · rw [decide_eq_false (by omega)]; simpa using h5
def loadG : List V → Option V
  | [.raw (.int .i64 op)] => some (bV (loadP op))
  | _ => none
theorem loadG_ok {E : Eh} (hE : EOk Try.prog E) : EOk Try.prog (specE 19 loadG E) := by
  refine specE_ok hE fun args v h => ?_
  unfold loadG at h
  split at h
  · cases h; exact ⟨⟨trivial, trivial⟩, trivial, load_ok _⟩
  · cases h
end Go.Proofs.Ytolohpkjpgbahaa.semFrames
end
section
/- SemFrames: the walk. -/
set_option linter.unusedVariables false
set_option linter.unusedSimpArgs false
set_option maxRecDepth 1000000
namespace Go.Proofs.Ytolohpkjpgbahaa.semFrames
open Go Go.Proofs Go.Proofs.YtolohpkjpgbahaaRL Go.Proofs.Ytolohpkjpgbahaa.isa
noncomputable def EL : Eh := specE 8 knG (specE 16 chkG (addE 17 inA (addE 18 ouA (regS (specE 15 doG (specE 19 loadG (addE 20 hasA noE)))))))
noncomputable abbrev cd : Code := codeOf Try.prog 7
noncomputable def p1 : List Nat := pathTo 9 cd
noncomputable def c1 : Code := subAt (p1.dropLast.dropLast.dropLast ++ [0]) cd
noncomputable def p2 : List Nat := pathTo 20 c1
abbrev KB (K : V → Prop) : Ex → St → Prop := bodyK False Try.prog (funcOf Try.prog 7) (rK K)
def live : List Nat := [1,4,6,8,9,10,11,12]
def live2 : List Nat := [6,8,10,13,14,15,16]
structure RF where
  x : Nat → Int
  nf : Bool
  zf : Bool
  cf : Bool
  vf : Bool
def RF.v (r : RF) : V := regs r.x r.nf r.zf r.cf r.vf
abbrev RF.e (r : RF) : Ent := .own (numsV .u64 r.x 32 ++ [.raw (.bool r.nf), .raw (.bool r.zf), .raw (.bool r.cf), .raw (.bool r.vf)]) 25
structure IN where
  op : Int
  d : Int
  n : Int
  m : Int
  a : Int
  c : Int
  im : Int
abbrev IN.v (i : IN) : V := insV i.op i.d i.n i.m i.a i.c i.im
abbrev IN.e (i : IN) : Ent := .own [.raw (.int .i64 i.op), .raw (.int .i64 i.d), .raw (.int .i64 i.n), .raw (.int .i64 i.m), .raw (.int .i64 i.a), .raw (.int .i64 i.c), .raw (.int .i64 i.im)] 35
abbrev IN.chk (i : IN) : Int := chkV i.op i.d i.n i.m i.a i.c i.im
abbrev IN.inn (i : IN) : List Int := inRaw i.d i.n i.m i.a i.op.toNat
abbrev IN.out (i : IN) : List Int := outRaw i.d i.op.toNat
abbrev row (j : Nat) (l : List Int) : List Ent := [.no, .arr (.grow j) [.int .i64 fun q => l.getD q 0] l.length 3]
def SI (i : IN) (pc : Int) (r m : RF) (vi vo : V) (mid : List Ent) (mp : Nat) (k : Int) : St := ⟨208, [(1, .raw (.int .u64 pc)), (4, .ptr 0 0), (6, .ptr 1 0), (8, bV false), (9, vi), (10, vo), (11, .ptr mp 0), (12, .raw (.int .i64 k))], [i.e, r.e] ++ mid ++ [m.e]⟩
abbrev nilV : V := .raw (.slice none 0 0)
def S00 (i : IN) (pc : Int) (r m : RF) (k : Int) : St := SI i pc r m nilV nilV [] 2 k
def S01 (i : IN) (pc : Int) (r m : RF) (o : List Int) (k : Int) : St := SI i pc r m nilV (.lse 3 2 1 0 o.length) (row 2 o) 4 k
def S10 (i : IN) (pc : Int) (r m : RF) (l : List Int) (k : Int) : St := SI i pc r m (.lse 3 2 1 0 l.length) nilV (row 2 l) 4 k
def S11 (i : IN) (pc : Int) (r m : RF) (l o : List Int) (k : Int) : St := SI i pc r m (.lse 3 2 1 0 l.length) (.lse 5 4 1 0 o.length) (row 2 l ++ row 4 o) 6 k
section
variable (i : IN) (pc : Int) (r m : RF) (l o : List Int)
def preM (K : V → Prop) (z00 z01 z10 z11 : Prop) : Prop := Br (i.chk != 0) (K (bV true)) (Br (i.chk != 0 || i.inn.isEmpty) (Br (i.chk != 0 || i.out.isEmpty) z00 z01) (Br (i.chk != 0 || i.out.isEmpty) z10 z11))
theorem pre_eq (K : V → Prop) (Z : St → Prop) : evTo Try.prog EL 100 0 (fun st => Z (gcSt 0 live st)) p1 cd ⟨(funcOf Try.prog 7).ntmps, zipArgs 0 [i.v, .raw (.int .u64 pc), r.v, m.v], []⟩ (KB K) =
    preM i K (Z (S00 i pc r m 0)) (Z (S01 i pc r m (plainL i.out) 0)) (Z (S10 i pc r m (plainL i.inn) 0)) (Z (S11 i pc r m (plainL i.inn) (plainL i.out) 0)) := by kernel_rfl
def IX (k : Int) (n : Nat) (P : Prop) : Prop := Br (decide (0 ≤ k)) (Br (decide (k < n)) (Br (Nat.blt (k.toNat + 0) n) P False) False) False
def flg (m r : RF) : RF := ⟨m.x, r.nf, r.zf, r.cf, r.vf⟩
def put (m r : RF) (q : Int) : RF := ⟨setX (norm m.x) q (getX (norm r.x) q), m.nf, m.zf, m.cf, m.vf⟩
def r1M (l : List Int) (k : Int) (F P X : Prop) : Prop := Br (decide (k < (l.length : Nat))) (IX k l.length (Br (l.getD (k.toNat + 0) 0 == 33) F (IX k l.length (IX k l.length P)))) X
theorem r1_00 (k : Nat) (K : Ex → St → Prop) : evG Try.prog EL 100 (lft (subAt p1 cd)) (S00 i pc r m 0) (fun e st => K e (gcSt 0 live st)) = K (.exit 0) (S00 i pc r m 0) := by kernel_rfl
theorem r1_01 (k : Nat) (K : Ex → St → Prop) : evG Try.prog EL 100 (lft (subAt p1 cd)) (S01 i pc r m o 0) (fun e st => K e (gcSt 0 live st)) = K (.exit 0) (S01 i pc r m o 0) := by kernel_rfl
theorem r1_10 (k : Int) (K : Ex → St → Prop) : evG Try.prog EL 100 (lft (subAt p1 cd)) (S10 i pc r m l k) (fun e st => K e (gcSt 0 live st)) =
    r1M l k (K .normal (S10 i pc r (flg m r) l (IntKind.i64.wrap (k + 1)))) (K .normal (S10 i pc r (put m r (l.getD (k.toNat + 0) 0)) l (IntKind.i64.wrap (k + 1)))) (K (.exit 0) (S10 i pc r m l k)) := by kernel_rfl
theorem r1_11 (k : Int) (K : Ex → St → Prop) : evG Try.prog EL 100 (lft (subAt p1 cd)) (S11 i pc r m l o k) (fun e st => K e (gcSt 0 live st)) =
    r1M l k (K .normal (S11 i pc r (flg m r) l o (IntKind.i64.wrap (k + 1)))) (K .normal (S11 i pc r (put m r (l.getD (k.toNat + 0) 0)) l o (IntKind.i64.wrap (k + 1)))) (K (.exit 0) (S11 i pc r m l o k)) := by kernel_rfl
theorem aft1 (K : Ex → St → Prop) (st : St) : ctxK Try.prog 0 p1 cd K (.exit 0) st = CodeB Try.prog 0 c1 st K := by kernel_rfl
def eff (i : IN) (pc : Int) (r : RF) : Eff := doV i.op i.d i.n i.m i.a i.c i.im pc (norm r.x) r.nf r.zf r.cf r.vf
abbrev effE (e : Eff) : Ent := .own (numsV .u64 e.x 32 ++ [.raw (.bool e.nf), .raw (.bool e.zf), .raw (.bool e.cf), .raw (.bool e.vf), .raw (.int .u64 e.next), .raw (.int .u64 e.addr), .raw (.int .u64 e.data), .raw (.bool e.touch)]) 32
def SJ0 (r : RF) (A B : Eff) (t : Bool) (j : Int) : St := ⟨208, [(6, .ptr 0 0), (8, bV false), (10, nilV), (13, .ptr 1 0), (14, .ptr 2 0), (15, bV t), (16, .raw (.int .i64 j))], [r.e, effE A, effE B]⟩
def SJ1 (r : RF) (A B : Eff) (t : Bool) (o : List Int) (j : Int) : St := ⟨208, [(6, .ptr 0 0), (8, bV false), (10, .lse 2 1 1 0 o.length), (13, .ptr 3 0), (14, .ptr 4 0), (15, bV t), (16, .raw (.int .i64 j))], [r.e] ++ row 1 o ++ [effE A, effE B]⟩
def midM (op : Int) (A B : Eff) (K : V → Prop) (Z : Bool → Prop) : Prop := Br (A.next != B.next) (K (bV false)) (Br (A.addr != B.addr) (K (bV false)) (Br (A.data != B.data) (K (bV false)) (Br (!(A.touch == B.touch)) (K (bV false)) (Br (loadP op) (Z true) (Z (op == 36))))))
theorem mid_00 (k : Int) (K : V → Prop) (Z : St → Prop) : evTo Try.prog EL 100 0 (fun st => Z (gcSt 0 live2 st)) p2 c1 (S00 i pc r m k) (KB K) = midM i.op (eff i pc r) (eff i pc m) K (fun t => Z (SJ0 r (eff i pc r) (eff i pc m) t 0)) := by kernel_rfl
theorem mid_01 (k : Int) (K : V → Prop) (Z : St → Prop) : evTo Try.prog EL 100 0 (fun st => Z (gcSt 0 live2 st)) p2 c1 (S01 i pc r m o k) (KB K) = midM i.op (eff i pc r) (eff i pc m) K (fun t => Z (SJ1 r (eff i pc r) (eff i pc m) t o 0)) := by kernel_rfl
theorem mid_10 (k : Int) (K : V → Prop) (Z : St → Prop) : evTo Try.prog EL 100 0 (fun st => Z (gcSt 0 live2 st)) p2 c1 (S10 i pc r m l k) (KB K) = midM i.op (eff i pc r) (eff i pc m) K (fun t => Z (SJ0 r (eff i pc r) (eff i pc m) t 0)) := by kernel_rfl
theorem mid_11 (k : Int) (K : V → Prop) (Z : St → Prop) : evTo Try.prog EL 100 0 (fun st => Z (gcSt 0 live2 st)) p2 c1 (S11 i pc r m l o k) (KB K) = midM i.op (eff i pc r) (eff i pc m) K (fun t => Z (SJ1 r (eff i pc r) (eff i pc m) t o 0)) := by kernel_rfl
end
end Go.Proofs.Ytolohpkjpgbahaa.semFrames
end
section
/- SemFrames: the second loop, and the end. -/
set_option linter.unusedVariables false
set_option linter.unusedSimpArgs false
set_option maxRecDepth 1000000
namespace Go.Proofs.Ytolohpkjpgbahaa.semFrames
open Go Go.Proofs Go.Proofs.YtolohpkjpgbahaaRL Go.Proofs.Ytolohpkjpgbahaa.isa
noncomputable def c2 : Code := subAt (p2.dropLast.dropLast.dropLast ++ [0]) c1
section
variable (r : RF) (A B : Eff) (t : Bool) (o : List Int)
def bM (h t : Bool) (gA gB gR : Int) (RT NX : Prop) : Prop :=
  Br h (Br (!!t) (Br (gA != gR) RT (Br (!t) (Br (gA != gB) RT NX) NX)) (Br (!t) (Br (gA != gB) RT NX) NX)) (Br (gA != gR) RT NX)
def lenM (o : List Int) (P : Prop) : Prop := Br (Nat.blt o.length 4) (Br (Nat.ble o.length o.length) P False) False
def r2M (j : Int) (P X : Prop) : Prop := Br (decide (j ≤ 32)) P X
theorem r2_0 (j : Int) (K : Ex → St → Prop) : evG Try.prog EL 100 (lft (subAt p2 c1)) (SJ0 r A B t j) (fun e st => K e (gcSt 0 live2 st)) =
    r2M j (Br (getX (norm A.x) j != getX (norm r.x) j) (K .ret (SJ0 r A B t j)) (K .normal (SJ0 r A B t (IntKind.i64.wrap (j + 1))))) (K (.exit 2) (SJ0 r A B t j)) := by kernel_rfl
theorem r2_1 (j : Int) (K : Ex → St → Prop) : evG Try.prog EL 100 (lft (subAt p2 c1)) (SJ1 r A B t o j) (fun e st => K e (gcSt 0 live2 st)) =
    r2M j (lenM o (bM (hasG (fun q => o.getD q 0) o.length j) t (getX (norm A.x) j) (getX (norm B.x) j) (getX (norm r.x) j) (K .ret (SJ1 r A B t o j)) (K .normal (SJ1 r A B t o (IntKind.i64.wrap (j + 1)))))) (K (.exit 2) (SJ1 r A B t o j)) := by kernel_rfl
theorem aft2 (K : Ex → St → Prop) (st : St) : ctxK Try.prog 0 p2 c1 K (.exit 2) st = CodeB Try.prog 0 c2 st K := by kernel_rfl
def sameM (A : Eff) (nf zf cf vf : Bool) (K : V → Prop) : Prop := Br (A.nf == nf) (Br (A.zf == zf) (Br (A.cf == cf) (K (bV (A.vf == vf))) (K (bV false))) (K (bV false))) (K (bV false))
theorem post_0 (j : Int) (K : V → Prop) : evG Try.prog EL 100 c2 (SJ0 r A B t j) (KB K) = sameM A r.nf r.zf r.cf r.vf K := by kernel_rfl
theorem post_1 (j : Int) (K : V → Prop) : evG Try.prog EL 100 c2 (SJ1 r A B t o j) (KB K) = lenM o (Br (hasG (fun q => o.getD q 0) o.length 33) (sameM A B.nf B.zf B.cf B.vf K) (sameM A r.nf r.zf r.cf r.vf K)) := by kernel_rfl
end
end Go.Proofs.Ytolohpkjpgbahaa.semFrames
end
