/- Parts of the proof, one behind the other. -/
import Derived.Test.YtjoopjhimgdgdaazDecRowsRLT
import Derived.Test.YtjoopjhimgdgdaazDecRowsRLG
section
/- RL: calls that only read: known at other places, of other blocks, they are known where these lie within the store's. -/
namespace Go.Proofs.YtjoopjhimgdgdaaRL
open Go
set_option linter.unusedVariables false
set_option linter.unusedSimpArgs false
/-- A call that reads what memory holds, told by another store that has no block of its own, and gives back a flat value. -/
theorem CallOk.reads {P : Program} {f : FuncId} {args : List V} {s : Sto} {v : V} (hv : v.bd 0) (hp : ∀ (xs : Array Value) (w : World), (callFunc f xs).run P w = .ok (.enter f xs) w)
    (h : ∀ ρ w, Rep ρ s w → sbd s → ∃ ρ0 args0 s0, absL ρ args = absL ρ0 args0 ∧ Rep ρ0 s0 w ∧ sbd s0 ∧ bdL s0.length args0 ∧ (∀ (i : Nat) e, s0[i]? = some e → e.isOwn = false) ∧ CallOk P f args0 s0 fun r _ => r = .ret v) : CallOk P f args s fun r s' => r = .ret v ∧ s' = s := by
  refine ⟨hp, fun ρ w h1 h2 h3 => ?_⟩
  obtain ⟨ρ0, args0, s0, e1, e2, e3, e4, e5, e6⟩ := h ρ w h1 h2
  rw [e1]
  refine (e6.run ρ0 w e2 e3 e4).mono ?_
  rintro e w' ⟨r, s', ρ', rfl, rfl, r1, r2, r3, r4⟩
  have hblk : ∀ b, b < w.heap.size → w'.heap[b]? = w.heap[b]? := fun b hb => r2.block b hb fun i e hi ho => by rw [e5 i e hi] at ho; cases ho
  refine ⟨.ret v, s, ρ, ?_, ⟨rfl, rfl⟩, ⟨fun i e hi => ?_, h1.sep⟩, ⟨Nat.le_refl _, fun _ _ => rfl, fun i e h ho => .inl ⟨i, e, h, ho, rfl⟩, r2.os, r2.tape, r2.output, r2.size, fun b hb _ => hblk b hb⟩, h2, V.bd_mono (Nat.zero_le _) v hv⟩
  · simp only [Res.ending]
    rw [V.abs_congr (n := 0) (fun i hi => absurd hi (by omega)) v hv]
  · have hr := h1.ent i e hi
    cases hl : e.live with
    | true => exact RepE.congr (n := s.length) (fun _ _ => rfl) (List.getElem?_eq_some_iff.1 hi).1 (h2 i e hi) (hblk _ (hr.lt hl)) r2.size hr
    | false => cases e <;> simp_all [Ent.live, RepE]
/-- The cells of block i from off on. -/
def cellsAt (s : Sto) (i off : Nat) : List V := match s[i]? with
  | some e => match e.cells with
    | some cs => cs.drop off
    | none => []
  | none => []
theorem cellsAt_ro {s : Sto} {i off : Nat} {vs : List V} {rest : List V} (h : cellsAt s i off = vs ++ rest) (h0 : vs ≠ []) (hv : bdL 0 vs) {ρ : Rho} {w : World} (hr : Rep ρ s w) :
    Rep (fun _ => ((ρ i).1, (ρ i).2 + off)) [.ro vs] w ∧ sbd [.ro vs] := by
  have key : ∃ e cs, s[i]? = some e ∧ e.cells = some cs ∧ cs.drop off = vs ++ rest := by
    unfold cellsAt at h
    split at h
    · rename_i e he
      split at h
      · rename_i cs hc
        exact ⟨e, cs, he, hc, h⟩
      · exact absurd (List.append_eq_nil_iff.1 h.symm).1 h0
    · exact absurd (List.append_eq_nil_iff.1 h.symm).1 h0
  obtain ⟨e, cs, he, hc, hd⟩ := key
  have hro := hr.toRo.ent i (.ro cs) (by
    simp only [roS, List.getElem?_map, he]
    cases e <;> simp [Ent.cells] at hc <;> subst hc <;> rfl)
  refine ⟨⟨fun j x hx => ?_, fun a b e f ha _ ho => ?_⟩, fun j x hx => ?_⟩
  · cases j with
    | succ j => simp at hx
    | zero =>
      simp at hx
      subst hx
      refine ⟨hro.1, fun j v hj => ?_⟩
      have h1 : cs[off + j]? = some v := by
        rw [← List.getElem?_drop, hd, List.getElem?_append_left (List.getElem?_eq_some_iff.1 hj).1]
        exact hj
      have := hro.2 (off + j) v h1
      rw [V.abs_congr (ρ := ρ) (n := 0) (fun i hi => absurd hi (Nat.not_lt_zero i)) v (bdL_iff.1 hv v (List.mem_of_getElem? hj)), ← this]
      simp only [Nat.add_assoc]
  · cases a with
    | zero => simp at ha; subst ha; cases ho
    | succ a => simp at ha
  · cases j with
    | zero => simp at hx; subst hx; exact bdL_mono (Nat.zero_le _) _ hv
    | succ j => simp at hx
/-- A call with a pointer to flat cells, which it reads. -/
theorem CallOk.at {P : Program} {f : FuncId} {i off : Nat} {s : Sto} {vs rest args : List V} {v : V} (hv : v.bd 0) (hc : cellsAt s i off = vs ++ rest) (h0 : vs ≠ []) (hb : bdL 0 vs) (ha : bdL 0 args)
    (h : CallOk P f (.ptr 0 0 :: args) [.ro vs] fun r _ => r = .ret v) : CallOk P f (.ptr i off :: args) s fun r s' => r = .ret v ∧ s' = s := by
  refine CallOk.reads hv h.plain fun ρ w hr hs => ⟨_, .ptr 0 0 :: args, [.ro vs], ?_, (cellsAt_ro hc h0 hb hr).1, (cellsAt_ro hc h0 hb hr).2, ⟨Nat.zero_lt_one, bdL_mono (Nat.zero_le _) _ ha⟩, fun j e he => ?_, h⟩
  · simp only [absL, V.abs, Nat.add_zero]
    exact congrArg _ (absL_congr (n := 0) (fun i hi => absurd hi (Nat.not_lt_zero i)) args ha)
  · cases j with
    | zero => simp at he; subst he; rfl
    | succ j => simp at he
end Go.Proofs.YtjoopjhimgdgdaaRL
end
section
/- RL: what bits of words are, as bit vectors. -/
namespace Go.Proofs.YtjoopjhimgdgdaaRL
open Go
set_option linter.unusedVariables false
theorem wrap_i64 (n : Int) : IntKind.i64.wrap n = (n + 9223372036854775808) % 18446744073709551616 - 9223372036854775808 := by
  unfold IntKind.wrap
  simp [IntKind.signed, IntKind.bits]
  split <;> omega
end Go.Proofs.YtjoopjhimgdgdaaRL
end
section
/- Fields of words, as numbers: masks, shifts, ors of what has no bit in common. -/
namespace Go.Proofs.Ytjoopjhimgdgdaa.isa
open Go Go.Proofs Go.Proofs.YtjoopjhimgdgdaaRL
set_option linter.unusedVariables false
set_option linter.unusedSimpArgs false
theorem wrap_u32 (n : Int) : IntKind.u32.wrap n = n % 4294967296 := IntKind.wrap_u32 n
theorem wrap_u32_in {n : Int} (h0 : 0 ≤ n) (h1 : n < 4294967296) : IntKind.u32.wrap n = n := by rw [wrap_u32]; omega
theorem wrap_i64_in {n : Int} (h0 : -9223372036854775808 ≤ n) (h1 : n < 9223372036854775808) : IntKind.i64.wrap n = n := by rw [wrap_i64]; omega
theorem and_mask (a lo n : Nat) : a &&& ((2 ^ n - 1) * 2 ^ lo) = a / 2 ^ lo % 2 ^ n * 2 ^ lo := by
  apply Nat.eq_of_testBit_eq
  intro i
  rw [Nat.testBit_and]
  rcases Nat.lt_or_ge i lo with h | h
  · rw [Nat.testBit_mul_two_pow, Nat.testBit_mul_two_pow]
    simp [Nat.not_le.2 h]
  · rw [Nat.testBit_mul_two_pow, Nat.testBit_mul_two_pow, Nat.testBit_two_pow_sub_one, Nat.testBit_mod_two_pow, Nat.testBit_div_two_pow]
    simp only [h, decide_true, Bool.true_and]
    rw [show i - lo + lo = i by omega, Bool.and_comm]
theorem or_apart (a lo n x : Nat) (hx : x < 2 ^ n) (ha : a / 2 ^ lo % 2 ^ n = 0) : a ||| (x * 2 ^ lo) = a + x * 2 ^ lo := by
  have p1 : 0 < 2 ^ lo := Nat.two_pow_pos lo
  have p2 : 2 ^ (n + lo) = 2 ^ n * 2 ^ lo := Nat.pow_add ..
  have h0 : a % 2 ^ lo < 2 ^ lo := Nat.mod_lt _ p1
  have e1 : a = 2 ^ (n + lo) * (a / 2 ^ (n + lo)) + a % 2 ^ lo := by
    have h1 := Nat.div_add_mod a (2 ^ lo)
    have h2 := Nat.div_add_mod (a / 2 ^ lo) (2 ^ n)
    rw [ha, Nat.add_zero] at h2
    rw [Nat.div_div_eq_div_mul, Nat.mul_comm (2 ^ lo) (2 ^ n), ← p2] at h2
    rw [← h2] at h1
    have h3 : ∀ X, 2 ^ (n + lo) * X = 2 ^ lo * (2 ^ n * X) := fun X => by rw [p2, Nat.mul_comm (2 ^ n) (2 ^ lo), Nat.mul_assoc]
    rw [h3]
    exact h1.symm
  have e2 : a = 2 ^ (n + lo) * (a / 2 ^ (n + lo)) ||| a % 2 ^ lo := by
    rw [← Nat.two_pow_add_eq_or_of_lt (Nat.lt_of_lt_of_le h0 (Nat.pow_le_pow_right (by omega) (by omega)))]
    exact e1
  have e3 : a % 2 ^ lo ||| x * 2 ^ lo = a % 2 ^ lo + x * 2 ^ lo := by
    rw [Nat.or_comm, Nat.mul_comm, ← Nat.two_pow_add_eq_or_of_lt h0, Nat.add_comm]
  have h3 : a % 2 ^ lo + x * 2 ^ lo < 2 ^ (n + lo) := by
    rw [p2]
    have : (x + 1) * 2 ^ lo ≤ 2 ^ n * 2 ^ lo := Nat.mul_le_mul_right _ hx
    rw [Nat.add_mul, Nat.one_mul] at this
    omega
  calc a ||| x * 2 ^ lo = (2 ^ (n + lo) * (a / 2 ^ (n + lo)) ||| a % 2 ^ lo) ||| x * 2 ^ lo := by rw [← e2]
    _ = 2 ^ (n + lo) * (a / 2 ^ (n + lo)) ||| (a % 2 ^ lo + x * 2 ^ lo) := by rw [Nat.or_assoc, e3]
    _ = 2 ^ (n + lo) * (a / 2 ^ (n + lo)) + (a % 2 ^ lo + x * 2 ^ lo) := (Nat.two_pow_add_eq_or_of_lt h3 _).symm
    _ = a + x * 2 ^ lo := by rw [← Nat.add_assoc, ← e1]
theorem nat_and (k : IntKind) (a b : Nat) (hk : k.signed = false) (ha : a < 2 ^ k.bits) (hb : b < 2 ^ k.bits) : Go.bits .and k (a : Int) (b : Int) = ((a &&& b : Nat) : Int) := by
  have e1 : BitVec.ofInt k.bits (a : Int) = BitVec.ofNat k.bits a := by simp
  have e2 : BitVec.ofInt k.bits (b : Int) = BitVec.ofNat k.bits b := by simp
  have hw : ∀ n : Nat, n < 2 ^ k.bits → k.wrap (n : Int) = (n : Int) := by
    intro n hn
    unfold IntKind.wrap
    simp only [hk, Bool.false_and, Bool.false_eq_true, if_false]
    exact_mod_cast Nat.mod_eq_of_lt hn
  unfold Go.bits
  simp only [e1, e2, BitVec.toNat_and, BitVec.toNat_ofNat, Nat.mod_eq_of_lt ha, Nat.mod_eq_of_lt hb]
  exact hw _ (Nat.lt_of_le_of_lt Nat.and_le_left ha)
theorem nat_or (k : IntKind) (a b : Nat) (hk : k.signed = false) (ha : a < 2 ^ k.bits) (hb : b < 2 ^ k.bits) : Go.bits .or k (a : Int) (b : Int) = ((a ||| b : Nat) : Int) := by
  have e1 : BitVec.ofInt k.bits (a : Int) = BitVec.ofNat k.bits a := by simp
  have e2 : BitVec.ofInt k.bits (b : Int) = BitVec.ofNat k.bits b := by simp
  have hw : ∀ n : Nat, n < 2 ^ k.bits → k.wrap (n : Int) = (n : Int) := by
    intro n hn
    unfold IntKind.wrap
    simp only [hk, Bool.false_and, Bool.false_eq_true, if_false]
    exact_mod_cast Nat.mod_eq_of_lt hn
  unfold Go.bits
  simp only [e1, e2, BitVec.toNat_or, BitVec.toNat_ofNat, Nat.mod_eq_of_lt ha, Nat.mod_eq_of_lt hb]
  exact hw _ (Nat.or_lt_two_pow ha hb)
theorem nat_andNot (k : IntKind) (a lo n : Nat) (hk : k.signed = false) (ha : a < 2 ^ k.bits) (hn : n + lo ≤ k.bits) : Go.bits .andNot k (a : Int) (((2 ^ n - 1) * 2 ^ lo : Nat) : Int) = ((a - a / 2 ^ lo % 2 ^ n * 2 ^ lo : Nat) : Int) := by
  have hm : (2 ^ n - 1) * 2 ^ lo < 2 ^ k.bits := by
    have h1 : (2 ^ n - 1) * 2 ^ lo < 2 ^ n * 2 ^ lo := Nat.mul_lt_mul_of_pos_right (by have := Nat.two_pow_pos n; omega) (Nat.two_pow_pos lo)
    rw [← Nat.pow_add] at h1
    exact Nat.lt_of_lt_of_le h1 (Nat.pow_le_pow_right (by omega) hn)
  have e1 : BitVec.ofInt k.bits (a : Int) = BitVec.ofNat k.bits a := by simp
  have e2 : BitVec.ofInt k.bits (((2 ^ n - 1) * 2 ^ lo : Nat) : Int) = BitVec.ofNat k.bits ((2 ^ n - 1) * 2 ^ lo) := by rw [BitVec.ofInt_natCast]
  have hw : ∀ n : Nat, n < 2 ^ k.bits → k.wrap (n : Int) = (n : Int) := by
    intro n hn
    unfold IntKind.wrap
    simp only [hk, Bool.false_and, Bool.false_eq_true, if_false]
    exact_mod_cast Nat.mod_eq_of_lt hn
  have hle : a / 2 ^ lo % 2 ^ n * 2 ^ lo ≤ a := Nat.le_trans (Nat.mul_le_mul_right _ (Nat.mod_le _ _)) (Nat.div_mul_le_self _ _)
  let z := a - a / 2 ^ lo % 2 ^ n * 2 ^ lo
  have hz0 : z / 2 ^ lo % 2 ^ n = 0 := by
    have h1 : z = (a / 2 ^ lo - a / 2 ^ lo % 2 ^ n) * 2 ^ lo + a % 2 ^ lo := by
      have h2 := Nat.div_add_mod a (2 ^ lo)
      have h3 : a / 2 ^ lo % 2 ^ n ≤ a / 2 ^ lo := Nat.mod_le _ _
      show a - a / 2 ^ lo % 2 ^ n * 2 ^ lo = _
      rw [Nat.sub_mul]
      rw [Nat.mul_comm (2 ^ lo)] at h2
      have h4 : a / 2 ^ lo % 2 ^ n * 2 ^ lo ≤ a / 2 ^ lo * 2 ^ lo := Nat.mul_le_mul_right _ h3
      omega
    rw [h1, Nat.mul_comm, Nat.mul_add_div (Nat.two_pow_pos lo), Nat.div_eq_of_lt (Nat.mod_lt _ (Nat.two_pow_pos lo)), Nat.add_zero]
    have h5 := Nat.div_add_mod (a / 2 ^ lo) (2 ^ n)
    have h6 : a / 2 ^ lo - a / 2 ^ lo % 2 ^ n = 2 ^ n * (a / 2 ^ lo / 2 ^ n) := by omega
    rw [h6, Nat.mul_mod_right]
  have hzy : z ||| (a / 2 ^ lo % 2 ^ n * 2 ^ lo) = a := by
    rw [or_apart z lo n _ (Nat.mod_lt _ (Nat.two_pow_pos n)) hz0]
    show a - _ + _ = a
    omega
  have hzl : z < 2 ^ k.bits := Nat.lt_of_le_of_lt (Nat.sub_le _ _) ha
  have hyl : a / 2 ^ lo % 2 ^ n * 2 ^ lo < 2 ^ k.bits := Nat.lt_of_le_of_lt hle ha
  have hzm : z &&& ((2 ^ n - 1) * 2 ^ lo) = 0 := by rw [and_mask, hz0, Nat.zero_mul]
  have hb : BitVec.ofNat k.bits a &&& ~~~ BitVec.ofNat k.bits ((2 ^ n - 1) * 2 ^ lo) = BitVec.ofNat k.bits z := by
    apply BitVec.eq_of_getLsbD_eq
    intro i hi
    have t1 : a.testBit i = (z.testBit i || (a / 2 ^ lo % 2 ^ n * 2 ^ lo).testBit i) := by rw [← Nat.testBit_or, hzy]
    have t2 : (z.testBit i && ((2 ^ n - 1) * 2 ^ lo).testBit i) = false := by rw [← Nat.testBit_and, hzm, Nat.zero_testBit]
    have t3 : (a / 2 ^ lo % 2 ^ n * 2 ^ lo).testBit i = (a.testBit i && ((2 ^ n - 1) * 2 ^ lo).testBit i) := by rw [← Nat.testBit_and, and_mask]
    simp only [BitVec.getLsbD_and, BitVec.getLsbD_not, BitVec.getLsbD_ofNat, hi, decide_true, Bool.true_and]
    rw [t3] at t1
    revert t1 t2
    cases a.testBit i <;> cases z.testBit i <;> cases ((2 ^ n - 1) * 2 ^ lo).testBit i <;> simp
  unfold Go.bits
  simp only [e1, e2]
  rw [hb, BitVec.toNat_ofNat, Nat.mod_eq_of_lt hzl]
  exact hw _ hzl
/-- A field laid in, as the code lays it. -/
def putM (w : Int) (m p : Int) (m2 v : Int) : Int := Go.bits .or .u32 (Go.bits .andNot .u32 w m) (IntKind.u32.wrap (Go.bits .and .u32 v m2 * p))
theorem and_u32 {x : Int} (n : Nat) (h0 : 0 ≤ x) (h1 : x < 4294967296) (hn : n ≤ 32) : Go.bits .and .u32 x (((2 ^ n - 1 : Nat)) : Int) = x % ((2 ^ n : Nat) : Int) := by
  obtain ⟨a, rfl⟩ := Int.eq_ofNat_of_zero_le h0
  have hm : 2 ^ n - 1 < 2 ^ IntKind.u32.bits := by
    have : 2 ^ n ≤ 2 ^ 32 := Nat.pow_le_pow_right (by omega) hn
    have h2 := Nat.two_pow_pos n
    show 2 ^ n - 1 < 2 ^ 32
    omega
  rw [nat_and .u32 a (2 ^ n - 1) rfl (by show a < 2 ^ 32; omega) hm, Nat.and_two_pow_sub_one_eq_mod]
  rfl
theorem putM_eq {w v : Int} (lo n : Nat) {m p m2 : Int} (hm : m = (((2 ^ n - 1) * 2 ^ lo : Nat) : Int)) (hp : p = ((2 ^ lo : Nat) : Int)) (hm2 : m2 = ((2 ^ n - 1 : Nat) : Int)) (hl : n + lo ≤ 32) (w0 : 0 ≤ w) (w1 : w < 4294967296) (v0 : 0 ≤ v) (v1 : v < 4294967296) :
    putM w m p m2 v = w - w / p % ((2 ^ n : Nat) : Int) * p + v % ((2 ^ n : Nat) : Int) * p := by
  subst hm hp hm2
  obtain ⟨a, rfl⟩ := Int.eq_ofNat_of_zero_le w0
  obtain ⟨b, rfl⟩ := Int.eq_ofNat_of_zero_le v0
  unfold putM
  rw [and_u32 n v0 v1 (by omega), nat_andNot .u32 a lo n rfl (by show a < 2 ^ 32; omega) hl]
  have hx : b % 2 ^ n < 2 ^ n := Nat.mod_lt _ (Nat.two_pow_pos n)
  have hxl : b % 2 ^ n * 2 ^ lo < 2 ^ 32 := by
    have h1 : b % 2 ^ n * 2 ^ lo < 2 ^ n * 2 ^ lo := Nat.mul_lt_mul_of_pos_right hx (Nat.two_pow_pos lo)
    rw [← Nat.pow_add] at h1
    exact Nat.lt_of_lt_of_le h1 (Nat.pow_le_pow_right (by omega) hl)
  have e1 : ((b : Int) % ((2 ^ n : Nat) : Int)) * ((2 ^ lo : Nat) : Int) = ((b % 2 ^ n * 2 ^ lo : Nat) : Int) := by rw [Int.natCast_mul, Int.natCast_emod]
  rw [e1, wrap_u32_in (by omega) (by omega)]
  have hle : a / 2 ^ lo % 2 ^ n * 2 ^ lo ≤ a := Nat.le_trans (Nat.mul_le_mul_right _ (Nat.mod_le _ _)) (Nat.div_mul_le_self _ _)
  have hz0 : (a - a / 2 ^ lo % 2 ^ n * 2 ^ lo) / 2 ^ lo % 2 ^ n = 0 := by
    have h1 : a - a / 2 ^ lo % 2 ^ n * 2 ^ lo = (a / 2 ^ lo - a / 2 ^ lo % 2 ^ n) * 2 ^ lo + a % 2 ^ lo := by
      have h2 := Nat.div_add_mod a (2 ^ lo)
      have h3 : a / 2 ^ lo % 2 ^ n ≤ a / 2 ^ lo := Nat.mod_le _ _
      rw [Nat.sub_mul]
      rw [Nat.mul_comm (2 ^ lo)] at h2
      have h4 : a / 2 ^ lo % 2 ^ n * 2 ^ lo ≤ a / 2 ^ lo * 2 ^ lo := Nat.mul_le_mul_right _ h3
      omega
    rw [h1, Nat.mul_comm, Nat.mul_add_div (Nat.two_pow_pos lo), Nat.div_eq_of_lt (Nat.mod_lt _ (Nat.two_pow_pos lo)), Nat.add_zero]
    have h5 := Nat.div_add_mod (a / 2 ^ lo) (2 ^ n)
    have h6 : a / 2 ^ lo - a / 2 ^ lo % 2 ^ n = 2 ^ n * (a / 2 ^ lo / 2 ^ n) := by omega
    rw [h6, Nat.mul_mod_right]
  rw [nat_or .u32 _ _ rfl (by show _ < 2 ^ 32; omega) (by show _ < 2 ^ 32; exact hxl), or_apart _ lo n _ hx hz0]
  rw [Int.natCast_add, Int.natCast_sub hle, Int.natCast_mul, Int.natCast_emod, Int.natCast_ediv]
theorem or_u32 {w x : Int} (lo n : Nat) {p : Int} (hp : p = ((2 ^ lo : Nat) : Int)) (hl : n + lo ≤ 32) (w0 : 0 ≤ w) (w1 : w < 4294967296) (x0 : 0 ≤ x) (x1 : x < ((2 ^ n : Nat) : Int)) (hz : w / p % ((2 ^ n : Nat) : Int) = 0) :
    Go.bits .or .u32 w (x * p) = w + x * p := by
  subst hp
  obtain ⟨a, rfl⟩ := Int.eq_ofNat_of_zero_le w0
  obtain ⟨b, rfl⟩ := Int.eq_ofNat_of_zero_le x0
  have hx : b < 2 ^ n := by omega
  have hxl : b * 2 ^ lo < 2 ^ 32 := by
    have h1 : b * 2 ^ lo < 2 ^ n * 2 ^ lo := Nat.mul_lt_mul_of_pos_right hx (Nat.two_pow_pos lo)
    rw [← Nat.pow_add] at h1
    exact Nat.lt_of_lt_of_le h1 (Nat.pow_le_pow_right (by omega) hl)
  rw [← Int.natCast_mul, nat_or .u32 _ _ rfl (by show _ < 2 ^ 32; omega) (by show _ < 2 ^ 32; exact hxl), or_apart a lo n b hx (by rw [← Int.natCast_ediv, ← Int.natCast_emod] at hz; omega)]
  rw [Int.natCast_add]
end Go.Proofs.Ytjoopjhimgdgdaa.isa
end
