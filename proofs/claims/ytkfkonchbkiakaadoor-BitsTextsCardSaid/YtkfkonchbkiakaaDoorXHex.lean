/- bits.Hex: sixteen digits, the leading noughts cut off as far as is asked. -/
import Derived.Test.YtkfkonchbkiakaaDoorXLib
import Derived.Test.YtkfkonchbkiakaaDoorQx0
import Derived.Lib.Hide
namespace Go.Proofs.YtkfkonchbkiakaaDoor.X
set_option linter.unusedVariables false
set_option linter.unusedSimpArgs false
open Go.RowKit Go.Proofs.YtkfkonchbkiakaaDoorW.PrintWords Go.Proofs.YtkfkonchbkiakaaDoorW.PrintLast Go.Proofs.YtkfkonchbkiakaaDoorW.PrintMore Go.Proofs.YtkfkonchbkiakaaDoor.Q
attribute [local go_sem] max2_int min2_int max_two min_two max_three min_three max_four min_four
def hexes : ByteArray := ⟨#[48, 49, 50, 51, 52, 53, 54, 55, 56, 57, 97, 98, 99, 100, 101, 102]⟩
/-- Digit k, the highest first. -/
def hexd (v : Int) (k : Nat) : Int := bt hexes (v / 2 ^ (60 - 4 * k) % 16)
def hexRow (v : Int) (k : Nat) : List Int := (List.range 16).map fun i => if i < k then hexd v i else 0
theorem hexRow_length (v : Int) (k : Nat) : (hexRow v k).length = 16 := by simp [hexRow]
theorem hexRow_zero (v : Int) : hexRow v 0 = List.replicate 16 0 := by
  simp [hexRow]
  rfl
theorem hexRow_set (v : Int) (k : Nat) : (hexRow v k).set k (hexd v k) = hexRow v (k + 1) := by
  apply List.ext_getElem
  · simp [hexRow]
  · intro i h1 h2
    simp only [hexRow, List.getElem_map, List.getElem_range, List.getElem_set]
    by_cases e : k = i
    · subst e
      simp
    · rw [if_neg e]
      by_cases l : i < k
      · rw [if_pos l, if_pos (by omega)]
      · rw [if_neg l, if_neg (by omega)]
def bits_Hex.n (v digits : Int) : Int := mx ((Lib.trimLeftB (strOfNums (hexRow v 16)).data.toList 48).length : Int) (mn (mx digits 1) 16)
def bits_Hex.f (a0 a1 : Int) : Option ByteArray := if 0 ≤ a0 ∧ a0 < 18446744073709551616 then some (strOfNums ((hexRow a0 16).drop (16 - bits_Hex.n a0 a1).toNat)) else none
theorem and15 (x : Int) (h0 : 0 ≤ x) (h1 : x < 18446744073709551616) : Go.bits .and .u64 x 15 = x % 16 := by
  rw [Go.u64_and x 15 h0 h1 (by omega) (by omega)]
  have h := Nat.and_two_pow_sub_one_eq_mod x.toNat 4
  simp only [Nat.reducePow, Nat.reduceSub] at h
  rw [show (15 : Int).toNat = 15 from rfl, h]
  omega
theorem div_range (v : Int) (h0 : 0 ≤ v) (h1 : v < 18446744073709551616) (m : Nat) : 0 ≤ v / 2 ^ m ∧ v / 2 ^ m < 18446744073709551616 := by
  have hp : (0 : Int) < 2 ^ m := Int.pow_pos (by omega)
  exact ⟨Int.ediv_nonneg h0 (by omega), Int.lt_of_le_of_lt (Int.ediv_le_self _ h0) h1⟩
set_option maxHeartbeats 1000000 in
theorem most_calls (a b : Int) (w : World) : Calls Tryd.prog 29 #[.int .i64 a, .int .i64 b] w fun e w' => e = .returned (.int .i64 (mx a b)) ∧ Drawn0 w w' := by
  by_cases h : a < b
  · have hb : decide (a < b) = true := decide_eq_true h
    rw [show mx a b = b from if_pos h]
    go_enter Tryd.func29, Tryd.ntmps29
    go_wp2
    go_ret
    exact ⟨rfl, by repeat (first | exact Drawn0.refl _ | apply Drawn0.step)⟩
  · have hb : decide (a < b) = false := decide_eq_false h
    rw [show mx a b = a from if_neg h]
    go_enter Tryd.func29, Tryd.ntmps29
    go_wp2
    go_ret
    exact ⟨rfl, by repeat (first | exact Drawn0.refl _ | apply Drawn0.step)⟩
set_option maxHeartbeats 1000000 in
set_option maxRecDepth 100000 in
theorem bits_Hex.calls (a0 : Int) (a1 : Int) (r : ByteArray) (w : World) (h : bits_Hex.f a0 a1 = some r) :
    Calls Tryd.prog 27 #[.int .u64 a0, .int .i64 a1] w fun e w' => e = .returned (.string r) ∧ Below w.heap.size w w' := by
  have HB := Aside0.mk (Below.refl w.heap.size w)
  unfold bits_Hex.f at h
  by_cases hr : 0 ≤ a0 ∧ a0 < 18446744073709551616
  · rw [if_pos hr] at h
    obtain rfl := Option.some.inj h
    clear h
    obtain ⟨hr0, hr1⟩ := hr
    have hsz16 : (hexRow a0 16).length = 16 := hexRow_length a0 16
    obtain ⟨t, ht⟩ : ∃ t, strings_TrimLeft.f (strOfNums (hexRow a0 16)) ⟨#[48]⟩ = some t := ⟨_, if_pos rfl⟩
    have htl : (t.size : Int) = ((Lib.trimLeftB (strOfNums (hexRow a0 16)).data.toList 48).length : Int) := by
      rw [strings_TrimLeft.f, if_pos rfl] at ht
      rw [← Option.some.inj ht]
      simp [ByteArray.size]
    have hts : (t.size : Int) ≤ 16 := by
      rw [htl]
      have h1 : (Lib.trimLeftB (strOfNums (hexRow a0 16)).data.toList 48).length ≤ (strOfNums (hexRow a0 16)).data.toList.length := by
        unfold Lib.trimLeftB
        exact (List.dropWhile_sublist _).length_le
      have h2 : (strOfNums (hexRow a0 16)).data.toList.length = 16 := by
        simp [strOfNums, hexRow]
      omega
    have hn : bits_Hex.n a0 a1 = mx (t.size : Int) (mn (mx a1 1) 16) := by rw [bits_Hex.n, htl]
    rw [hn]
    clear hn htl
    have hn1 : 1 ≤ mx (t.size : Int) (mn (mx a1 1) 16) := by unfold mx mn; omega
    have hn2 : mx (t.size : Int) (mn (mx a1 1) 16) ≤ 16 := by unfold mx mn; omega
    obtain ⟨j1, hj1⟩ : ∃ j1 : Int, mx a1 1 = j1 := ⟨_, rfl⟩
    rw [hj1] at hn1 hn2 ⊢
    obtain ⟨j2, hj2⟩ : ∃ j2 : Int, mn j1 16 = j2 := ⟨_, rfl⟩
    rw [hj2] at hn1 hn2 ⊢
    obtain ⟨n, hjn⟩ : ∃ n : Int, mx (t.size : Int) j2 = n := ⟨_, rfl⟩
    rw [hjn] at hn1 hn2 ⊢
    have HT := Aside0.mk ht
    have HN := Aside0.mk hjn
    clear ht hjn
    have hj1_ : (if a1 < 1 then 1 else a1) = j1 := hj1
    have hj2_ : (if 16 < j1 then 16 else j1) = j2 := hj2
    clear hj1 hj2
    go_enter Tryd.func27, Tryd.ntmps27
    go_wp2_with (first | ((with_reducible refine gate_dst (N := 8) rfl ?_); refine Kd.R_make (Kd.int .u8) _ 5 rfl (N := 8) rfl 47 _ _ rfl 16 rfl rfl Tryd.underlying47 (.int .u8 0) 1 info5 rfl (by decide) (by omega) 0 (ok := fun _ => True) (okp := fun _ => True) rfl (fun _ hk => hk) trivial (by omega) (by omega) (Below.refl _ _) (Nat.le_refl _) ?_; intro v104 w4 ho5 hb hg_ hnew_; clear hg_ hnew_; (simp only [Int.reduceToNat] at ho5); rw [← hexRow_zero a0] at ho5; have n0_ := Aside0.mk (Kd.R_lower ho5 (below_size (by repeat (first | (with_reducible first | exact HB.out | apply below_alloc | apply pw_below_drewN | apply below_drew1) | exact HB.out)))); have n1_ := Aside0.mk (below_step (by repeat (first | (with_reducible first | exact HB.out | apply below_alloc | apply pw_below_drewN | apply below_drew1) | exact HB.out)) hb); clear HB; have HO105 := n0_; have HB := n1_; clear n0_ n1_; clear hb ho5; obtain ⟨Ao6, co6, eo6⟩ := Kd.R_slice HO105.out; rw [hexRow_length] at eo6; subst eo6))
    go_loopw [11] (fun v11 w' => ∃ k : Nat, k ≤ 16 ∧ v11 = .int .i64 k ∧ Aside0 (Kd.R (Kd.int .u8) 5 w' w.heap.size (fun _ => True) (.slice Ao6 16 co6) (hexRow a0 k)) ∧ Aside0 (Below w.heap.size w w')) (fun v11 _ => 16 - (intOf v11).toNat)
    case atStart => exact ⟨0, by omega, rfl, HO105, HB⟩
    case round =>
      obtain ⟨k, hk, rfl, HO_5, HB⟩ := hrel
      by_cases hlt : k < 16
      · have hdv := div_range a0 hr0 hr1 (60 - 4 * k)
        have hd15 := and15 _ hdv.1 hdv.2
        have c11b0 : 0 ≤ (Go.bits .and .u64 (a0 / 2 ^ (60 - 4 * k)) 15) := by rw [hd15]; omega
        have c12b0 : (Go.bits .and .u64 (a0 / 2 ^ (60 - 4 * k)) 15) < 16 := by rw [hd15]; omega
        have hdd : Hid (bt (⟨#[48, 49, 50, 51, 52, 53, 54, 55, 56, 57, 97, 98, 99, 100, 101, 102]⟩ : ByteArray) (Go.bits .and .u64 (a0 / 2 ^ (60 - 4 * k)) 15) = hexd a0 k) := by rw [hd15]; rfl
        have hset : Hid (((hexRow a0 k).set k (hexd a0 k)) = hexRow a0 (k + 1)) := hexRow_set a0 k
        clear hd15 hdv
        have hx13 := bt_at (⟨#[48, 49, 50, 51, 52, 53, 54, 55, 56, 57, 97, 98, 99, 100, 101, 102]⟩ : ByteArray) (Go.bits .and .u64 (a0 / 2 ^ (60 - 4 * k)) 15)
        have p13 := eq_true c11b0
        have q13 := eq_true c12b0
        have p13b : decide (0 ≤ (Go.bits .and .u64 (a0 / 2 ^ (60 - 4 * k)) 15)) = true := decide_eq_true c11b0
        have q13b : decide ((Go.bits .and .u64 (a0 / 2 ^ (60 - 4 * k)) 15) < 16) = true := decide_eq_true c12b0
        clear c11b0 c12b0
        have p16 : 0 ≤ (k : Int) := by omega
        have q16 : (k : Int) < ((16 : Nat) : Int) := by omega
        obtain ⟨go16, co16, eo16, gb16, gl16, cl16, HG16⟩ := Kd.R_form HO_5.out (by rw [hexRow_length]; omega)
        (first | cases eo16 | (injection eo16 with ea_ en_ ec_; (first | subst ea_ | (injection ea_ with ea_; subst ea_)); subst ec_; clear en_))
        have GB16 := Aside0.mk gb16
        have GG16 := Aside0.mk HG16
        clear gb16 gl16 HG16
        obtain ⟨hx16_0, hf16_0⟩ := Kd.R_celln 0 HO_5.out (k : Int) p16 q16
        simp only [Int.toNat_natCast] at hx16_0 hf16_0
        have p16b : decide (0 ≤ (k : Int)) = true := decide_eq_true p16
        have q16b : decide ((k : Int) < 16) = true := decide_eq_true q16
        have p16c := eq_true p16
        have q16c := eq_true (show (k : Int) < 16 from q16)
        clear p16 q16
        have HP17 := Kd.R_putg HO_5.out (k : Int) (bt (⟨#[48, 49, 50, 51, 52, 53, 54, 55, 56, 57, 97, 98, 99, 100, 101, 102]⟩ : ByteArray) (Go.bits .and .u64 (a0 / 2 ^ (60 - 4 * k)) 15))
        simp only [Int.toNat_natCast] at HP17
        go_wp2_with (first | ((with_reducible refine gate_store (t := 5) (p := 23) rfl ?_); refine store_event (t := 5) (p := 23) (v := ?vo_w18) (w1 := (wr.setCell ⟨go16, k, none⟩ (.int .u8 (bt (⟨#[48, 49, 50, 51, 52, 53, 54, 55, 56, 57, 97, 98, 99, 100, 101, 102]⟩ : ByteArray) (Go.bits .and .u64 (a0 / 2 ^ (60 - 4 * k)) 15))))) ?hg ?ho ?hn ?hr ?_; (case ho => rfl); (case hg => rfl); (case hn => rfl); (case hr => first | (go_simp; done) | (go_simp; rfl)); intro w18 hw; have hg : wr.grownBy w18 (some go16) := (by rw [hw]; exact HP17.2); have hp_ : Kd.R (Kd.int .u8) 5 w18 w.heap.size (fun _ => True) (.slice (some ⟨go16, 0, none⟩) 16 co6) (hexRow a0 (k + 1)) := (by rw [hw, ← hset.out, ← hdd.out]; exact HP17.1); clear HP17; have n0_ := Aside0.mk (hp_); have n1_ := Aside0.mk ((by rw [hw]; exact below_set (HB.out) GB16.out : Below w.heap.size w w18)); clear HO_5; clear HB; have HO_5 := n0_; have HB := n1_; clear n0_ n1_; clear hg hw hp_))
        go_roundw
        case rel => exact ⟨k + 1, by omega, by go_num, HO_5, HB⟩
        case measure => simp [intOf]; omega
      · obtain rfl : k = 16 := by omega
        clear hlt hk
        have hcv1 := own_string (P := Tryd.prog) Tryd.underlying47 Tryd.underlying5 Tryd.underlying9 (Kd.own_of_R HO_5.out)
        obtain ⟨i0, hi0, _, hsz0, _⟩ := info_parts info5
        have hR : Kd.C (Kd.int .u8) wr Ao6 16 (hexRow a0 16) := (Kd.R_reads' HO_5.out).2.2
        have hroom : 16 ≤ co6 := (Kd.R_reads' HO_5.out).2.1
        have hRI : ReadsInt wr .u8 Ao6 16 (hexRow a0 16) := Kd.reads_of_C (enc := Value.int .u8) (d := (0 : Int)) (h1 := fun _ => rfl) hR
        obtain ⟨A', hA1, hA2, hA3⟩ := print_cut_int (P := Tryd.prog) (k := .u8) 47 5 Tryd.underlying47 hi0 hsz0 Ao6 co6 (hexRow a0 16) (16 - n) (by omega) (by rw [hsz16]; omega) (by rw [hsz16]; exact hroom)
        rw [hsz16] at hA1 hA2
        have hRC := Kd.C_of_reads (enc := Value.int .u8) (d := (0 : Int)) (h1 := fun _ => rfl) (hA2 wr hRI)
        have hcv2 : ∀ m, (convert 47 9 (.slice A' ((hexRow a0 16).drop (16 - n).toNat).length (co6 - (16 - n).toNat))).run Tryd.prog (wr.drewN m) = .ok (.string (strOfNums ((hexRow a0 16).drop (16 - n).toNat))) (wr.drewN m) := fun m =>
          string_of_reads Tryd.underlying47 Tryd.underlying5 Tryd.underlying9 (Kd.reads_of_C (enc := Value.int .u8) (d := (0 : Int)) (h1 := fun _ => rfl) (Kd.C_drewN hRC m))
        clear hA2 hRC hRI hR hroom hA3 hi0
        generalize hl : (hexRow a0 16).drop (16 - n).toNat = l at hA1 hcv2 ⊢
        go_wp2_with fail
        refine (strings_TrimLeft.calls (strOfNums (hexRow a0 16)) ⟨#[48]⟩ t _ HT.out).mono ?_
        rintro e w' ⟨rfl, ⟨nd, rfl⟩⟩
        go_wp2_with fail
        refine (most_calls (t.size : Int) j2 _).mono ?_
        rintro e w' ⟨rfl, ⟨nd2, rfl⟩⟩
        rw [HN.out]
        go_wp2
        subst hl
        go_ret
        exact ⟨rfl, by repeat (first | (with_reducible first | exact HB.out | apply below_alloc | apply pw_below_drewN | apply below_drew1) | exact HB.out)⟩
  · rw [if_neg hr] at h
    cases h
end Go.Proofs.YtkfkonchbkiakaaDoor.X
