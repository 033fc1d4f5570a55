/- LayoutPlaces, the plain law: the program's functions on places and the reference's answer the same for any arguments. -/
import Derived.Test.YtlhpkcbeamphjaaPLayoutPlacesx4
namespace Go.Proofs.Ytlhpkcbeamphjaa.PureLP
open Go.RowKit Go.Proofs.Ytlhpkcbeamphjaa.PLayoutPlaces Go.Proofs.YtlhpkcbeamphjaaW.PrintWords Go.Proofs.YtlhpkcbeamphjaaW.PrintLast Go.Proofs.YtlhpkcbeamphjaaW.PrintMore

theorem u64w (x : Int) : IntKind.u64.wrap x = x % 18446744073709551616 := by
  simp [IntKind.wrap, IntKind.bits, IntKind.signed]

theorem bind_same {α β : Type} [DecidableEq α] {o p : Option α} (h : o = p) (hs : ∃ r, p = some r) {x y : Option β} :
    (o.bind fun t => p.bind fun t' => if t = t' then x else y) = x := by
  obtain ⟨r, hr⟩ := hs
  rw [h, hr]
  simp

theorem address_some (a : Int) : ∃ r, brazierref22_Address.f a = some r := by
  unfold brazierref22_Address.f
  repeat' split
  all_goals exact ⟨_, rfl⟩

theorem slot_eq (a b : Int) : layout_Slot.f a b = brazierref22_Slot.f a b := by
  obtain ⟨r, hr⟩ := address_some a
  have hr' : layout_Address.f a = some r := hr
  unfold layout_Slot.f brazierref22_Slot.f
  rw [hr, hr']
  simp only [Option.bind_some]

theorem slot_some (a b : Int) : ∃ r, brazierref22_Slot.f a b = some r := by
  obtain ⟨r, hr⟩ := address_some a
  unfold brazierref22_Slot.f
  rw [hr]
  simp only [Option.bind_some]
  repeat' split
  all_goals exact ⟨_, rfl⟩

theorem stack_eq (a : Int) : layout_Stack.f a = brazierref22_Stack.f a := by
  unfold layout_Stack.f brazierref22_Stack.f
  by_cases h : a < 0
  · rw [if_pos h, if_pos h]
  · rw [if_neg h, if_neg h]
    by_cases h2 : a ≥ 4
    · rw [if_pos h2, if_pos h2]
    · rw [if_neg h2, if_neg h2]
      have e : IntKind.u64.wrap (1048576 + (IntKind.u64.wrap (131072 * (IntKind.u64.wrap a)))) = IntKind.u64.wrap (wrap64 (1048576 + (wrap64 (a * 131072)))) := by
        simp only [u64w, wrap64]
        omega
      rw [e]

theorem stack_some (a : Int) : ∃ r, brazierref22_Stack.f a = some r := by
  unfold brazierref22_Stack.f
  repeat' split
  all_goals exact ⟨_, rfl⟩

theorem object_eq (a : Int) : layout_Object.f a = brazierref22_Object.f a := by
  unfold layout_Object.f brazierref22_Object.f
  by_cases h : Int.tmod a 8 = 0
  · simp only [if_pos h]
  · simp only [if_neg h]
    repeat' split
    all_goals rfl

theorem object_some (a : Int) : ∃ r, brazierref22_Object.f a = some r := by
  unfold brazierref22_Object.f
  repeat' split
  all_goals exact ⟨_, rfl⟩

theorem bytes_some (a : Int) : ∃ r, brazierref22_Bytes.f a = some r := by
  unfold brazierref22_Bytes.f
  repeat' split
  all_goals exact ⟨_, rfl⟩

theorem classOf_some (a : Int) : ∃ r, brazierref22_ClassOf.f a = some r := by
  unfold brazierref22_ClassOf.f
  repeat' split
  all_goals exact ⟨_, rfl⟩

theorem kind_eq (k : Nat) (a : Int) : layout_Kind.f (k + 1) a = brazierref22_Kind.f (k + 1) a := by
  have h1 : IntKind.u64.wrap (4294967296 + (IntKind.u64.wrap (wrap64 (-(-1))))) = 4294967297 := by decide +kernel
  have h2 : IntKind.u64.wrap (4294967296 + (IntKind.u64.wrap (wrap64 (-(-2))))) = 4294967298 := by decide +kernel
  have hj : ∀ b, layout_Kind.j0 (k + 1) a b = brazierref22_Kind.j0 (k + 1) a b := by
    intro b
    simp only [layout_Kind.j0, brazierref22_Kind.j0]
    cases b
    · by_cases e1 : a = -1
      · subst e1
        simp only [Bool.false_eq_true, if_false, if_true, h1]
      · by_cases e2 : a = -2
        · subst e2
          simp only [Bool.false_eq_true, if_false, if_true, h2]
          rfl
        · simp only [Bool.false_eq_true, if_false, if_neg e1, if_neg e2]
    · rfl
  unfold layout_Kind.f brazierref22_Kind.f
  rw [hj, hj]

theorem kind_some (k : Nat) (a : Int) : ∃ r, brazierref22_Kind.f (k + 1) a = some r := by
  unfold brazierref22_Kind.f
  simp only [brazierref22_Kind.j0]
  repeat' split
  all_goals exact ⟨_, rfl⟩

theorem check_some (a b c d e : Int) : ∃ r, layout_Check.f a b c d e = some r ∧ (r = 0 → 1 ≤ a ∧ a ≤ 4 ∧ 0 ≤ b ∧ b ≤ 65536 ∧ 0 ≤ d ∧ d ≤ 65536) := by
  unfold layout_Check.f
  repeat' split
  all_goals exact ⟨_, rfl, by omega⟩

theorem mx_eq (a b : Int) : mx a b = max a b := by
  unfold mx; omega

theorem regions_eq (a b c d e : Int) : layout_Regions.f a b c d e = brazierref22_Regions.f a b c d e := by
  obtain ⟨r, hr, hb⟩ := check_some a b c d e
  have hr' : brazierref22_Check.f a b c d e = some r := hr
  unfold layout_Regions.f brazierref22_Regions.f
  rw [hr, hr']
  simp only [Option.bind_some]
  by_cases h : r = 0
  · obtain ⟨h1, h2, h3, h4, h5, h6⟩ := hb h
    rw [if_pos h, if_pos h]
    have e1 : IntKind.u64.wrap (131072 * (IntKind.u64.wrap a)) = IntKind.u64.wrap ((IntKind.u64.wrap a) * 131072) := by rw [Int.mul_comm]
    have e2 : IntKind.u64.wrap (8 * (IntKind.u64.wrap (mx b 1))) = if b < 1 then 8 * 1 else IntKind.u64.wrap (8 * (IntKind.u64.wrap b)) := by
      rw [mx_eq]
      simp only [u64w]
      split <;> omega
    have e3 : mx (IntKind.u64.wrap (4 * (IntKind.u64.wrap d))) 64 = if wrap64 (4 * d) < 64 then 64 else IntKind.u64.wrap (wrap64 (4 * d)) := by
      rw [mx_eq]
      simp only [u64w, wrap64]
      split <;> omega
    rw [e1, e2, e3]
    by_cases k1 : b < 1
    · simp only [if_pos k1]
      by_cases k2 : wrap64 (4 * d) < 64
      · simp only [if_pos k2]
      · simp only [if_neg k2]
    · simp only [if_neg k1]
      by_cases k2 : wrap64 (4 * d) < 64
      · simp only [if_pos k2]
      · simp only [if_neg k2]
  · rw [if_neg h, if_neg h]

theorem regions_some (a b c d e : Int) : ∃ l, layout_Regions.f a b c d e = some l ∧ l.length ≤ 5 ∧ ∀ r ∈ l, r.f0 ≠ 0 := by
  obtain ⟨r, hr, hb⟩ := check_some a b c d e
  unfold layout_Regions.f
  rw [hr]
  simp only [Option.bind_some]
  split
  · refine ⟨_, rfl, by simp, ?_⟩
    intro r hr
    simp only [List.mem_cons, List.not_mem_nil, or_false] at hr
    rcases hr with rfl | rfl | rfl | rfl | rfl <;> simp
  · exact ⟨_, rfl, by simp, fun r hr => by simp at hr⟩

theorem wrap_up {i : Int} (h0 : 0 ≤ i) (h : i < 100) : wrap64 (i + 1) = i + 1 := by
  unfold wrap64; omega
theorem wrap_up' {i : Int} (h0 : 0 ≤ i) (h : i < 100) : wrap64 (1 + i) = i + 1 := by
  unfold wrap64; omega

theorem which_eq (x : Int) (l : List S41) (hl : l.length ≤ 5) (hz : ∀ r ∈ l, r.f0 ≠ 0) : ∀ (k : Nat) (i : Int), 0 ≤ i → i ≤ l.length → (l.length : Int) - i < k →
    layout_Which.l0 k x l (l.length : Int) i = brazierref22_Which.l0 k x l i ∧ ∃ r, brazierref22_Which.l0 k x l i = some r := by
  intro k
  induction k with
  | zero => intro i h0 h1 h2; omega
  | succ k ih =>
    intro i h0 h1 h2
    simp only [layout_Which.l0, brazierref22_Which.l0]
    by_cases hlt : i < (l.length : Int)
    · have hf : (rd_T41 l i).f0 ≠ 0 := by
        have : i.toNat < l.length := by omega
        unfold rd_T41
        rw [List.getD_eq_getElem?_getD, List.getElem?_eq_getElem this]
        exact hz _ (List.getElem_mem _)
      have hc : (!(((rd_T41 l i).f0) == 0) || (!(((rd_T41 l i).f1) == 0) || (((rd_T41 l i).f2) || (((rd_T41 l i).f3))))) = true := by
        simp [hf]
      rw [if_pos hlt, if_pos h0, if_pos hlt, if_pos hc, if_pos hlt, if_pos h0, wrap_up h0 (by omega), wrap_up' h0 (by omega)]
      obtain ⟨g1, g2⟩ := ih (i + 1) (by omega) (by omega) (by omega)
      rw [g1]
      refine ⟨rfl, ?_⟩
      repeat' split
      all_goals first | exact ⟨_, rfl⟩ | exact g2
    · rw [if_neg hlt, if_neg hlt]
      exact ⟨rfl, _, rfl⟩

theorem j2_true (k : Nat) (x1 x3 x4 x5 p q : Int) : brazierlaw22_LayoutPlaces.j2 (k + 2) x1 x3 x4 x5 p q p q = some true := by
  simp only [brazierlaw22_LayoutPlaces.j2, if_true]
  rw [bind_same (object_eq _) (object_some _), bind_same (show layout_Address.f x3 = brazierref22_Address.f x3 from rfl) (address_some _), bind_same (slot_eq _ _) (slot_some _ _), bind_same (show layout_Bytes.f x4 = brazierref22_Bytes.f x4 from rfl) (bytes_some _), bind_same (kind_eq _ _) (kind_some _ _)]
  obtain ⟨r, hr⟩ := classOf_some x1
  have hr' : layout_ClassOf.f x1 = some r := hr
  rw [hr, hr']
  simp

theorem l0_true (x1 x2 x3 x4 x5 : Int) (l : List S41) (hl : l.length ≤ 5) : ∀ (k : Nat) (i : Int), 0 ≤ i → i ≤ l.length → (l.length : Int) - i < k →
    brazierlaw22_LayoutPlaces.l0 (k + 2) x1 x2 x3 x4 x5 l l i = some true := by
  intro k
  induction k with
  | zero => intro i h0 h1 h2; omega
  | succ k ih =>
    intro i h0 h1 h2
    rw [show k + 1 + 2 = (k + 2) + 1 from rfl]
    simp only [brazierlaw22_LayoutPlaces.l0]
    by_cases hlt : i < (l.length : Int)
    · rw [if_pos hlt, if_pos h0, if_pos hlt, if_neg (by simp), wrap_up h0 (by omega)]
      exact ih (i + 1) (by omega) (by omega) (by omega)
    · rw [if_neg hlt, stack_eq]
      obtain ⟨r, hr⟩ := stack_some x2
      rw [hr]
      simp only [Option.bind_some]
      rw [j2_true, j2_true]
      simp

theorem LayoutPlaces (a b c d e x1 x2 x3 x4 x5 : Int) : brazierlaw22_LayoutPlaces.f 20 a b c d e x1 x2 x3 x4 x5 = some true := by
  have hk : brazierlaw22_known.f 20 = some true := by decide +kernel
  obtain ⟨l, hl, h5, hz⟩ := regions_some a b c d e
  obtain ⟨r, hr, _⟩ := check_some a b c d e
  have hr' : brazierref22_Check.f a b c d e = some r := hr
  have hl' : brazierref22_Regions.f a b c d e = some l := by rw [← regions_eq, hl]
  obtain ⟨w1, w, hw⟩ := which_eq x1 l h5 hz 20 0 (by omega) (by omega) (by omega)
  unfold brazierlaw22_LayoutPlaces.f
  rw [hk]
  simp only [Option.bind_some, brazierlaw22_of.f, hl, hl', hr, hr', if_true]
  unfold layout_Which.f brazierref22_Which.f
  rw [hl, hl']
  simp only [Option.bind_some]
  rw [w1, hw]
  simp only [Option.bind_some]
  rw [show (20 : Nat) = (17 + 2) + 1 from rfl]
  simp only [brazierlaw22_LayoutPlaces.j0]
  rw [if_neg (by simp)]
  exact l0_true _ _ _ _ _ l h5 17 0 (by omega) (by omega) (by omega)
end Go.Proofs.Ytlhpkcbeamphjaa.PureLP
