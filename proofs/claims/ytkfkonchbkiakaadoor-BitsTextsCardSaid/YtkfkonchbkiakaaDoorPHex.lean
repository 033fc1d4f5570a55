/- Numbers as digits: what the program's and the reference's functions are, in plain arithmetic. -/
import Derived.Test.YtkfkonchbkiakaaDoorPFields
import Derived.Test.YtkfkonchbkiakaaDoorQx7
namespace Go.Proofs.YtkfkonchbkiakaaDoor.P1
set_option linter.unusedVariables false
set_option linter.unusedSimpArgs false
open Go.RowKit Go.Proofs.YtkfkonchbkiakaaDoorW.PrintWords Go.Proofs.YtkfkonchbkiakaaDoorW.PrintLast Go.Proofs.YtkfkonchbkiakaaDoorW.PrintMore Go.Proofs.YtkfkonchbkiakaaDoor.Q Go.Proofs.YtkfkonchbkiakaaDoor.X
/-- Digit k of a number, the lowest is 0. -/
def hexc (a : Int) (k : Nat) : Int := bt hexes (a / 2 ^ (4 * k) % 16)
/-- The lowest n digits, the highest first. -/
def low (a : Int) : Nat → List Int
  | 0 => []
  | n + 1 => hexc a n :: low a n
theorem low_length (a : Int) : ∀ n, (low a n).length = n
  | 0 => rfl
  | n + 1 => by simp [low, low_length a n]
theorem low_row (a : Int) : hexRow a 16 = low a 16 := by
  unfold hexRow
  simp only [low, List.range_succ, List.range_zero, List.nil_append, List.map_append, List.map_cons, List.map_nil, List.cons_append, Nat.reduceLT, if_true, hexd, hexc, Nat.reduceMul, Nat.reduceSub]
theorem low_drop (a : Int) (n : Nat) : ∀ m, (low a (m + n)).drop m = low a n
  | 0 => by simp
  | m + 1 => by
    rw [show m + 1 + n = (m + n) + 1 from by omega]
    simp only [low, List.drop_succ_cons]
    exact low_drop a n m
theorem digit_ne : ∀ d : Fin 16, d.val ≠ 0 → (bt hexes (d.val : Int)).toNat.toUInt8 ≠ 48 := by decide +kernel
theorem digit_zero : (bt hexes 0).toNat.toUInt8 = 48 := by decide +kernel
theorem digit_is : ∀ d : Fin 16, (if (d.val : Int) < 10 then some ((48 + (d.val : Int)) % 256) else some ((((97 + (d.val : Int)) % 256) - 10) % 256)) = some (bt hexes (d.val : Int)) := by decide +kernel
/-- How many digits a number has. -/
def Digits (a : Int) (L : Nat) : Prop := L ≤ 16 ∧ (∀ k, L ≤ k → a / 2 ^ (4 * k) = 0) ∧ (∀ k, k < L → 0 < a / 2 ^ (4 * k))
theorem div_mono (a : Int) (h0 : 0 ≤ a) {j k : Nat} (h : j ≤ k) : a / 2 ^ (4 * k) ≤ a / 2 ^ (4 * j) := by
  have e : (2 : Int) ^ (4 * k) = 2 ^ (4 * j) * 2 ^ (4 * k - 4 * j) := by rw [← Int.pow_add]; congr 1; omega
  rw [e, ← Int.ediv_ediv_of_nonneg (by have := two_pow_pos (4 * j); omega)]
  exact Int.ediv_le_self _ (Int.ediv_nonneg h0 (by have := two_pow_pos (4 * j); omega))
theorem digits_ex (a : Int) (h0 : 0 ≤ a) (h1 : a < 18446744073709551616) : ∃ L, Digits a L := by
  have nn : ∀ k, 0 ≤ a / 2 ^ (4 * k) := fun k => Int.ediv_nonneg h0 (by have := two_pow_pos (4 * k); omega)
  have go : ∀ m, m ≤ 16 → (∀ k, m ≤ k → a / 2 ^ (4 * k) = 0) → ∃ L, Digits a L := by
    intro m
    induction m with
    | zero => intro hm hz; exact ⟨0, by omega, hz, fun k hk => by omega⟩
    | succ m ih =>
      intro hm hz
      by_cases h : a / 2 ^ (4 * m) = 0
      · exact ih (by omega) (fun k hk => by
          have := div_mono a h0 hk
          have := nn k
          omega)
      · refine ⟨m + 1, hm, hz, fun k hk => ?_⟩
        have := div_mono a h0 (show k ≤ m by omega)
        have := nn m
        omega
  refine go 16 (by omega) (fun k hk => ?_)
  have := div_mono a h0 hk
  have e : a / 2 ^ (4 * 16) = 0 := Int.ediv_eq_zero_of_lt h0 (by simpa using h1)
  have := nn k
  omega
theorem str_list (xs : List Int) : (strOfNums xs).data.toList = xs.map (fun x => x.toNat.toUInt8) := by
  simp [strOfNums]
theorem trim_low (a : Int) (h0 : 0 ≤ a) (L : Nat) (hL : Digits a L) : ∀ m, L ≤ m → (Lib.trimLeftB ((low a m).map (fun x => x.toNat.toUInt8)) 48).length = L := by
  intro m
  induction m with
  | zero =>
    intro h
    have : L = 0 := by omega
    subst this
    rfl
  | succ m ih =>
    intro h
    unfold Lib.trimLeftB at ih ⊢
    simp only [low, List.map_cons]
    by_cases e : L = m + 1
    · have hp := hL.2.2 m (by omega)
      have hlt : a / 2 ^ (4 * m) < 16 := by
        have hz := hL.2.1 (m + 1) (by omega)
        have e2 : (2 : Int) ^ (4 * (m + 1)) = 2 ^ (4 * m) * 16 := by rw [show 4 * (m + 1) = 4 * m + 4 from by omega, Int.pow_add]; rfl
        rw [e2, ← Int.ediv_ediv_of_nonneg (by have := two_pow_pos (4 * m); omega)] at hz
        omega
      have hne := digit_ne ⟨(a / 2 ^ (4 * m) % 16).toNat, by omega⟩ (by simp only; omega)
      have e3 : (((a / 2 ^ (4 * m) % 16).toNat : Nat) : Int) = a / 2 ^ (4 * m) % 16 := by omega
      simp only [e3] at hne
      rw [List.dropWhile_cons_of_neg (by simpa [hexc] using hne)]
      simp [low_length, e]
    · have hz : hexc a m = bt hexes 0 := by
        unfold hexc
        rw [hL.2.1 m (by omega)]
        rfl
      rw [List.dropWhile_cons_of_pos (by rw [hz, digit_zero]; rfl)]
      exact ih (by omega)
/-- How many digits are asked for: 1 to 16. -/
def want (digits : Int) : Nat := if digits < 1 then 1 else if 16 < digits then 16 else digits.toNat
theorem want_le (digits : Int) : 1 ≤ want digits ∧ want digits ≤ 16 := by unfold want; constructor <;> (repeat' split) <;> omega
theorem hex_eq (a digits : Int) (h0 : 0 ≤ a) (h1 : a < 18446744073709551616) (L : Nat) (hL : Digits a L) : bits_Hex.f a digits = some (strOfNums (low a (max L (want digits)))) := by
  unfold bits_Hex.f
  rw [if_pos ⟨h0, h1⟩]
  refine congrArg (fun l => some (strOfNums l)) ?_
  have hl : ((Lib.trimLeftB (strOfNums (hexRow a 16)).data.toList 48).length : Int) = L := by
    rw [str_list, low_row, trim_low a h0 L hL 16 hL.1]
  have hn : bits_Hex.n a digits = ((max L (want digits) : Nat) : Int) := by
    unfold bits_Hex.n
    rw [hl]
    unfold mx mn want
    repeat' split
    all_goals omega
  rw [hn, low_row]
  have hw := want_le digits
  have hL1 := hL.1
  have e : (16 - ((max L (want digits) : Nat) : Int)).toNat = 16 - max L (want digits) := by omega
  rw [e]
  have := low_drop a (max L (want digits)) (16 - max L (want digits))
  rw [show 16 - max L (want digits) + max L (want digits) = 16 from by omega] at this
  exact this
theorem and15' (x : Int) (h0 : 0 ≤ x) (h1 : x < 18446744073709551616) : (Go.bits .and .u64 x 15) % 256 = x % 16 := by rw [and15 x h0 h1]; omega
theorem str_size (xs : List Int) : (strOfNums xs).size = xs.length := by
  simp [strOfNums, ByteArray.size]
theorem str_cons (x : Int) (xs : List Int) : strOfNums [x] ++ strOfNums xs = strOfNums (x :: xs) := by
  apply ByteArray.ext
  simp [strOfNums]
theorem ref_hex_l (a : Int) (D : Nat) (hD : D ≤ 16) (h0 : 0 ≤ a) (h1 : a < 18446744073709551616) (L : Nat) (hL : Digits a L) :
    ∀ (d k j : Nat), max L D - j = d → j ≤ max L D → d < k → brazierref1_Hex.l0 k (a / 2 ^ (4 * j)) D (strOfNums (low a j)) = some (strOfNums (low a (max L D))) := by
  intro d
  induction d with
  | zero =>
    intro k j hd hj hk
    obtain ⟨k, rfl⟩ : ∃ m, k = m + 1 := ⟨k - 1, by omega⟩
    have e : j = max L D := by omega
    simp only [brazierref1_Hex.l0]
    rw [if_neg (by rw [hL.2.1 j (by omega)]; omega), if_neg (by rw [str_size, low_length]; omega), e]
  | succ d ih =>
    intro k j hd hj hk
    obtain ⟨k, rfl⟩ : ∃ m, k = m + 1 := ⟨k - 1, by omega⟩
    have hL1 := hL.1
    have z0 : 0 ≤ a / 2 ^ (4 * j) := Int.ediv_nonneg h0 (by have := two_pow_pos (4 * j); omega)
    have z1 : a / 2 ^ (4 * j) < 18446744073709551616 := Int.lt_of_le_of_lt (Int.ediv_le_self _ h0) h1
    have e1 : a / 2 ^ (4 * j) / 16 = a / 2 ^ (4 * (j + 1)) := by
      rw [show 4 * (j + 1) = 4 * j + 4 from by omega, Int.pow_add, Int.ediv_ediv_of_nonneg (by have := two_pow_pos (4 * j); omega)]
      rfl
    have hdig : brazierref1_digit.f ((Go.bits .and .u64 (a / 2 ^ (4 * j)) 15) % 256) = some (hexc a j) := by
      rw [and15' _ z0 z1]
      have hd := digit_is ⟨(a / 2 ^ (4 * j) % 16).toNat, by omega⟩
      have e3 : (((a / 2 ^ (4 * j) % 16).toNat : Nat) : Int) = a / 2 ^ (4 * j) % 16 := by omega
      simp only [e3] at hd
      unfold brazierref1_digit.f
      rw [hd]
      rfl
    have hih := ih k (j + 1) (by omega) (by omega) (by omega)
    simp only [brazierref1_Hex.l0]
    rw [hdig, e1]
    simp only [Option.bind_some]
    have hsz : (strOfNums [hexc a j]).size + (strOfNums (low a j)).size ≤ 9223372036854775807 := by
      rw [str_size, str_size, low_length]
      simp only [List.length_cons, List.length_nil]
      omega
    rw [if_pos hsz, str_cons]
    by_cases hv : a / 2 ^ (4 * j) > 0
    · rw [if_pos hv]
      exact hih
    · rw [if_neg hv]
      have hjL : L ≤ j := by
        by_cases hc : j < L
        · exact absurd (hL.2.2 j hc) hv
        · omega
      rw [if_pos (by rw [str_size, low_length]; omega)]
      exact hih
theorem ref_hex_eq (a digits : Int) (h0 : 0 ≤ a) (h1 : a < 18446744073709551616) (L : Nat) (hL : Digits a L) (k : Nat) (hk : 30 < k) : brazierref1_Hex.f k a digits = some (strOfNums (low a (max L (want digits)))) := by
  obtain ⟨k, rfl⟩ : ∃ m, k = m + 2 := ⟨k - 2, by omega⟩
  have hL1 := hL.1
  have main : ∀ D : Nat, D ≤ 16 → brazierref1_Hex.j1 (k + 1) a D = some (strOfNums (low a (max L D))) := by
    intro D hD
    simp only [brazierref1_Hex.j1]
    have := ref_hex_l a D hD h0 h1 L hL (max L D) k 0 (by omega) (by omega) (by omega)
    simpa [low, strOfNums] using this
  unfold brazierref1_Hex.f want
  by_cases c1 : digits < 1
  · rw [if_pos c1, if_pos c1]
    simp only [brazierref1_Hex.j0]
    rw [if_neg (by omega)]
    exact main 1 (by omega)
  · rw [if_neg c1, if_neg c1]
    simp only [brazierref1_Hex.j0]
    by_cases c2 : digits > 16
    · rw [if_pos c2, if_pos (by omega)]
      exact main 16 (by omega)
    · rw [if_neg c2, if_neg (by omega)]
      have := main digits.toNat (by omega)
      rw [show ((digits.toNat : Nat) : Int) = digits from by omega] at this
      exact this

/-! reading -/
/-- What a sign is worth as a digit. -/
def hv (c : Int) : Option Int := if 48 ≤ c ∧ c ≤ 57 then some (c - 48) else if 97 ≤ c ∧ c ≤ 102 then some (c - 87) else if 65 ≤ c ∧ c ≤ 70 then some (c - 55) else none
def hstep (v d : Int) : Int := Go.bits .or .u64 (IntKind.u64.wrap (v * 16)) d
/-- d signs from i on, v read so far. -/
def rhx (s : ByteArray) : Nat → Int → Int → Int × Bool
  | 0, _, v => (v, true)
  | d + 1, i, v => match hv (bt s i) with
    | some x => rhx s d (i + 1) (hstep v x)
    | none => (0, false)
def idx (c : Int) : Int := Lib.indexByte [48, 49, 50, 51, 52, 53, 54, 55, 56, 57, 97, 98, 99, 100, 101, 102] c.toNat.toUInt8
theorem sign_eq : ∀ c : Fin 256, (if 65 ≤ (c.val : Int) ∧ (c.val : Int) ≤ 70 then idx (((c.val : Int) + 32) % 256) else idx c.val) = (hv c.val).getD (-1) := by decide +kernel
theorem hv_range (c : Int) (x : Int) (h : hv c = some x) : 0 ≤ x ∧ x ≤ 15 := by
  unfold hv at h
  repeat' split at h
  all_goals first | (cases h; done) | (have := Option.some.inj h; omega)
theorem read_l (s : ByteArray) (hs : s.size ≤ 1000) : ∀ (d k : Nat) (i v : Int), 0 ≤ i → (s.size : Int) - i = d → 2 * d < k → bits_ReadHex.l0 k s v (s.size : Int) i = some (rhx s d i v) := by
  intro d
  induction d with
  | zero =>
    intro k i v h0 hd hk
    obtain ⟨k, rfl⟩ : ∃ m, k = m + 1 := ⟨k - 1, by omega⟩
    simp only [bits_ReadHex.l0]
    rw [if_neg (by omega)]
    rfl
  | succ d ih =>
    intro k i v h0 hd hk
    obtain ⟨k, rfl⟩ : ∃ m, k = m + 2 := ⟨k - 2, by omega⟩
    have hb := bt_range s i
    have hw : wrap64 (i + 1) = i + 1 := by unfold wrap64; omega
    have he := sign_eq ⟨(bt s i).toNat, by omega⟩
    have e3 : (((bt s i).toNat : Nat) : Int) = bt s i := by omega
    simp only [e3] at he
    simp only [bits_ReadHex.l0]
    rw [if_pos (by omega), if_pos h0, if_pos (by omega)]
    have core : ∀ c : Int, idx c = (hv (bt s i)).getD (-1) → ((strings_IndexByte.f (⟨#[48, 49, 50, 51, 52, 53, 54, 55, 56, 57, 97, 98, 99, 100, 101, 102]⟩ : ByteArray) c).bind fun t158 => (if t158 < 0 then (some ((0 : Int), false)) else (bits_ReadHex.l0 k s (Go.bits .or .u64 (IntKind.u64.wrap (v * 16)) (IntKind.u64.wrap (t158))) (s.size : Int) (wrap64 (i + 1))))) = some (rhx s (d + 1) i v) := by
      intro c hc
      have hi : strings_IndexByte.f (⟨#[48, 49, 50, 51, 52, 53, 54, 55, 56, 57, 97, 98, 99, 100, 101, 102]⟩ : ByteArray) c = some (idx c) := rfl
      rw [hi, hc]
      simp only [Option.bind_some, rhx]
      cases hh : hv (bt s i) with
      | none => simp
      | some x =>
        have hr := hv_range _ _ hh
        simp only [Option.getD_some]
        rw [if_neg (by omega), hw]
        have e : IntKind.u64.wrap x = x := by rw [u64w]; omega
        rw [e]
        exact ih k (i + 1) (hstep v x) (by omega) (by omega) (by omega)
    by_cases h1 : bt s i ≥ 65
    · rw [if_pos h1]
      by_cases h2 : bt s i ≤ 70
      · rw [decide_eq_true h2]
        simp only [bits_ReadHex.j2, if_true]
        rw [if_pos ⟨by omega, h2⟩] at he
        exact core _ he
      · rw [decide_eq_false h2]
        simp only [bits_ReadHex.j2, Bool.false_eq_true, if_false]
        rw [if_neg (by omega)] at he
        exact core _ he
    · rw [if_neg h1]
      simp only [bits_ReadHex.j2, Bool.false_eq_true, if_false]
      rw [if_neg (by omega)] at he
      exact core _ he
theorem ref_read_l (s : ByteArray) (hs : s.size ≤ 1000) : ∀ (d k : Nat) (i v : Int), 0 ≤ i → (s.size : Int) - i = d → 3 * d < k → brazierref1_ReadHex.l0 k s v i = some (rhx s d i v) := by
  intro d
  induction d with
  | zero =>
    intro k i v h0 hd hk
    obtain ⟨k, rfl⟩ : ∃ m, k = m + 1 := ⟨k - 1, by omega⟩
    simp only [brazierref1_ReadHex.l0]
    rw [if_neg (by omega)]
    rfl
  | succ d ih =>
    intro k i v h0 hd hk
    obtain ⟨k, rfl⟩ : ∃ m, k = m + 3 := ⟨k - 3, by omega⟩
    have hb := bt_range s i
    have hw : wrap64 (i + 1) = i + 1 := by unfold wrap64; omega
    simp only [brazierref1_ReadHex.l0]
    rw [if_pos (by omega), if_pos h0]
    have j3f : ∀ b : Bool, (b = true → 97 ≤ bt s i ∧ bt s i ≤ 102) → (b = false → ¬ (97 ≤ bt s i ∧ bt s i ≤ 102)) → ¬ (48 ≤ bt s i ∧ bt s i ≤ 57) → brazierref1_ReadHex.j3 (k + 1) s v i (bt s i) b = some (rhx s (d + 1) i v) := by
      intro b ht hf hn
      simp only [brazierref1_ReadHex.j3, hw]
      cases b with
      | true =>
        have h := ht rfl
        simp only [if_true]
        have e : (((bt s i - 97) % 256) + 10) % 256 = bt s i - 87 := by omega
        have hh : hv (bt s i) = some (bt s i - 87) := by unfold hv; rw [if_neg hn, if_pos h]
        rw [e, ih k (i + 1) _ (by omega) (by omega) (by omega)]
        simp only [rhx, hh]
        rfl
      | false =>
        have h := hf rfl
        simp only [Bool.false_eq_true, if_false]
        by_cases h1 : bt s i ≥ 65
        · rw [if_pos h1]
          by_cases h2 : bt s i ≤ 70
          · rw [if_pos h2]
            have e : (((bt s i - 65) % 256) + 10) % 256 = bt s i - 55 := by omega
            have hh : hv (bt s i) = some (bt s i - 55) := by unfold hv; rw [if_neg hn, if_neg h, if_pos ⟨h1, h2⟩]
            rw [e, ih k (i + 1) _ (by omega) (by omega) (by omega)]
            simp only [rhx, hh]
            rfl
          · rw [if_neg h2]
            have hh : hv (bt s i) = none := by unfold hv; rw [if_neg hn, if_neg h, if_neg (by omega)]
            simp only [rhx, hh]
        · rw [if_neg h1]
          have hh : hv (bt s i) = none := by unfold hv; rw [if_neg hn, if_neg h, if_neg (by omega)]
          simp only [rhx, hh]
    have j2f : ∀ b : Bool, (b = true → 48 ≤ bt s i ∧ bt s i ≤ 57) → (b = false → ¬ (48 ≤ bt s i ∧ bt s i ≤ 57)) → brazierref1_ReadHex.j2 (k + 2) s v i (bt s i) b = some (rhx s (d + 1) i v) := by
      intro b ht hf
      simp only [brazierref1_ReadHex.j2, hw]
      cases b with
      | true =>
        have h := ht rfl
        simp only [if_true]
        have e : (bt s i - 48) % 256 = bt s i - 48 := by omega
        have hh : hv (bt s i) = some (bt s i - 48) := by unfold hv; rw [if_pos h]
        rw [e, ih (k + 1) (i + 1) _ (by omega) (by omega) (by omega)]
        simp only [rhx, hh]
        rfl
      | false =>
        have h := hf rfl
        simp only [Bool.false_eq_true, if_false]
        by_cases h1 : bt s i ≥ 97
        · rw [if_pos h1]
          exact j3f _ (fun hx => ⟨h1, of_decide_eq_true hx⟩) (fun hx hy => of_decide_eq_false hx hy.2) h
        · rw [if_neg h1]
          exact j3f _ (fun hx => by cases hx) (fun hx hy => h1 hy.1) h
    by_cases h1 : bt s i ≥ 48
    · rw [if_pos h1]
      exact j2f _ (fun hx => ⟨h1, of_decide_eq_true hx⟩) (fun hx hy => of_decide_eq_false hx hy.2)
    · rw [if_neg h1]
      exact j2f _ (fun hx => by cases hx) (fun hx hy => h1 hy.1)
/-- What ReadHex reads. -/
def rh (s : ByteArray) : Int × Bool := if s.size < 1 ∨ 16 < s.size then (0, false) else rhx s s.size 0 0
theorem read_eq (s : ByteArray) (hs : s.size ≤ 1000) (k : Nat) (hk : 3010 < k) : bits_ReadHex.f k s = some (rh s) := by
  obtain ⟨k, rfl⟩ : ∃ m, k = m + 1 := ⟨k - 1, by omega⟩
  unfold bits_ReadHex.f rh
  by_cases h1 : (s.size : Int) < 1
  · rw [if_pos h1, if_pos (by omega)]
    simp only [bits_ReadHex.j0, if_true]
  · rw [if_neg h1]
    by_cases h2 : (s.size : Int) > 16
    · rw [decide_eq_true h2, if_pos (by omega)]
      simp only [bits_ReadHex.j0, if_true]
    · rw [decide_eq_false h2, if_neg (by omega)]
      simp only [bits_ReadHex.j0, Bool.false_eq_true, if_false]
      exact read_l s hs s.size k 0 0 (by omega) (by omega) (by omega)
theorem ref_read_eq (s : ByteArray) (hs : s.size ≤ 1000) (k : Nat) (hk : 3010 < k) : brazierref1_ReadHex.f k s = some (rh s) := by
  obtain ⟨k, rfl⟩ : ∃ m, k = m + 1 := ⟨k - 1, by omega⟩
  unfold brazierref1_ReadHex.f rh
  by_cases h1 : (s.size : Int) < 1
  · rw [if_pos h1, if_pos (by omega)]
    simp only [brazierref1_ReadHex.j0, if_true]
  · rw [if_neg h1]
    by_cases h2 : (s.size : Int) > 16
    · rw [decide_eq_true h2, if_pos (by omega)]
      simp only [brazierref1_ReadHex.j0, if_true]
    · rw [decide_eq_false h2, if_neg (by omega)]
      simp only [brazierref1_ReadHex.j0, Bool.false_eq_true, if_false]
      exact ref_read_l s hs s.size k 0 0 (by omega) (by omega) (by omega)
theorem hv_digit : ∀ d : Fin 16, hv (bt hexes (d.val : Int)) = some (d.val : Int) := by decide +kernel
theorem bt_str (xs : List Int) (hx : ∀ x ∈ xs, 0 ≤ x ∧ x ≤ 255) (i : Nat) (h : i < xs.length) : bt (strOfNums xs) (i : Int) = xs[i] := by
  unfold bt
  rw [dif_pos (by rw [Int.toNat_natCast, str_size]; exact h)]
  have hm := hx xs[i] (List.getElem_mem h)
  have e : ((strOfNums xs)[(i : Int).toNat]'(by rw [Int.toNat_natCast, str_size]; exact h)) = xs[i].toNat.toUInt8 := by
    simp [strOfNums, ByteArray.getElem_eq_getElem_data]
  rw [e]
  have e2 : (xs[i].toNat.toUInt8).toNat = xs[i].toNat % 256 := by simp
  rw [e2]
  omega
theorem low_get (a : Int) : ∀ (n i : Nat) (h : i < n), (low a n)[i]'(by rw [low_length]; exact h) = hexc a (n - 1 - i)
  | 0, i, h => by omega
  | n + 1, 0, h => by simp [low]
  | n + 1, i + 1, h => by
    simp only [low, List.getElem_cons_succ]
    rw [low_get a n i (by omega)]
    congr 1
    omega
theorem low_range (a : Int) : ∀ n, ∀ x ∈ low a n, 0 ≤ x ∧ x ≤ 255
  | 0, x, h => by simp [low] at h
  | n + 1, x, h => by
    simp only [low, List.mem_cons] at h
    rcases h with rfl | h
    · exact bt_range _ _
    · exact low_range a n x h
theorem or_digit (v d : Int) (h0 : 0 ≤ v) (h1 : v * 16 < 18446744073709551616) (d0 : 0 ≤ d) (d1 : d < 16) : hstep v d = v * 16 + d := by
  unfold hstep
  have e : IntKind.u64.wrap (v * 16) = v * 16 := by rw [u64w]; omega
  rw [e, Go.u64_or _ _ (by omega) h1 d0 (by omega)]
  have h := Nat.two_pow_add_eq_or_of_lt (i := 4) (b := d.toNat) (by omega) v.toNat
  have e2 : 2 ^ 4 * v.toNat = (v * 16).toNat := by omega
  rw [e2] at h
  rw [← h]
  omega
theorem read_back (a : Int) (h0 : 0 ≤ a) (h1 : a < 18446744073709551616) (m : Nat) (hm : m ≤ 16) : ∀ (d : Nat) (i : Nat), i + d = m → rhx (strOfNums (low a m)) d i (a / 2 ^ (4 * d)) = (a, true) := by
  intro d
  induction d with
  | zero =>
    intro i hi
    simp [rhx]
  | succ d ih =>
    intro i hi
    have hb : bt (strOfNums (low a m)) (i : Int) = hexc a d := by
      rw [bt_str _ (low_range a m) i (by rw [low_length]; omega), low_get a m i (by omega)]
      congr 1
      omega
    have hd := hv_digit ⟨(a / 2 ^ (4 * d) % 16).toNat, by omega⟩
    have e3 : (((a / 2 ^ (4 * d) % 16).toNat : Nat) : Int) = a / 2 ^ (4 * d) % 16 := by omega
    simp only [e3] at hd
    have hh : hv (bt (strOfNums (low a m)) (i : Int)) = some (a / 2 ^ (4 * d) % 16) := by rw [hb]; exact hd
    simp only [rhx, hh]
    have z0 : 0 ≤ a / 2 ^ (4 * d) := Int.ediv_nonneg h0 (by have := two_pow_pos (4 * d); omega)
    have z1 : a / 2 ^ (4 * d) < 18446744073709551616 := Int.lt_of_le_of_lt (Int.ediv_le_self _ h0) h1
    have e1 : a / 2 ^ (4 * (d + 1)) = a / 2 ^ (4 * d) / 16 := by
      rw [show 4 * (d + 1) = 4 * d + 4 from by omega, Int.pow_add, Int.ediv_ediv_of_nonneg (by have := two_pow_pos (4 * d); omega)]
      rfl
    rw [e1, or_digit _ _ (by omega) (by omega) (by omega) (by omega)]
    have e2 : a / 2 ^ (4 * d) / 16 * 16 + a / 2 ^ (4 * d) % 16 = a / 2 ^ (4 * d) := by omega
    rw [e2]
    exact ih (i + 1) (by omega)
theorem hex_back (a digits : Int) (h0 : 0 ≤ a) (h1 : a < 18446744073709551616) : ∃ s, bits_Hex.f a digits = some s ∧ s.size ≤ 16 ∧ rh s = (a, true) := by
  obtain ⟨L, hL⟩ := digits_ex a h0 h1
  refine ⟨_, hex_eq a digits h0 h1 L hL, ?_, ?_⟩
  · rw [str_size, low_length]
    have := hL.1
    have := want_le digits
    omega
  · have := hL.1
    have hw := want_le digits
    unfold rh
    rw [str_size, low_length, if_neg (by omega)]
    have hb := read_back a h0 h1 (max L (want digits)) (by omega) (max L (want digits)) 0 (by omega)
    rw [hL.2.1 _ (by omega)] at hb
    exact hb
end Go.Proofs.YtkfkonchbkiakaaDoor.P1
