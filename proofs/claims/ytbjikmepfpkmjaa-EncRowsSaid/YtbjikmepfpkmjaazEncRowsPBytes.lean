/- enc.Bytes: the bytes of a row of instructions, or the first one's error. -/
import Derived.Test.YtbjikmepfpkmjaazEncRowsPBytesF
set_option linter.unusedVariables false
set_option linter.unusedSimpArgs false
namespace Go.Proofs.Ytbjikmepfpkmjaa.encBytes
open Go Go.Proofs Go.Proofs.YtbjikmepfpkmjaaRL Go.Proofs.Ytbjikmepfpkmjaa.isa
open Go.Proofs.Ytbjikmepfpkmjaa.encWords (nilS wordsA wordsA_ok)
theorem EB_ok : EOk Try.prog EB := wordsA_ok noE_ok
/-- The bytes of words. -/
def byteW (W : Nat → Int) (j : Nat) : Int := W (j / 4) / ((256 ^ (j % 4) : Nat) : Int) % 256
def KY (I : InsC) (n : Nat) (s : Sto) (r : Res) (s' : Sto) : Prop :=
  (I.all n → r = .ret (.tup [.lse 2 1 1 0 (4 * n), .raw (.int .i64 0)]) ∧ ∃ b, (∀ j, j < 4 * n → b j = byteW I.W j) ∧ s' = s ++ [.no, .arr (.grow 1) [.int .u8 b] (4 * n) 5, .no, .arr (.grow 3) [.int .u32 I.W] n 25]) ∧
  (¬ I.all n → r = .ret (.tup [nilS, .raw (.int .i64 1)]) ∧ s' = s)
theorem after1 (K : Ex → St → Prop) (st : St) : ctxK Try.prog 1 p1 (codeOf Try.prog 13) K (.exit 0) st = CodeB Try.prog 1 c1 st K := by kernel_rfl
theorem wrap_u8 (n : Int) : IntKind.u8.wrap n = n % 256 := IntKind.wrap_u8 n
theorem four (w : Int) (q : Nat) (hq : q < 4) : [IntKind.u8.wrap w, IntKind.u8.wrap (w.fdiv 256), IntKind.u8.wrap (w.fdiv 65536), IntKind.u8.wrap (w.fdiv 16777216)].getD q 0 = w / ((256 ^ q : Nat) : Int) % 256 := by
  rcases (show q = 0 ∨ q = 1 ∨ q = 2 ∨ q = 3 by omega) with rfl | rfl | rfl | rfl
  · show IntKind.u8.wrap w = w / 1 % 256
    rw [wrap_u8, Int.ediv_one]
  · show IntKind.u8.wrap (w.fdiv 256) = w / 256 % 256
    rw [wrap_u8, Int.fdiv_eq_ediv_of_nonneg _ (by omega)]
  · show IntKind.u8.wrap (w.fdiv 65536) = w / 65536 % 256
    rw [wrap_u8, Int.fdiv_eq_ediv_of_nonneg _ (by omega)]
  · show IntKind.u8.wrap (w.fdiv 16777216) = w / 16777216 % 256
    rw [wrap_u8, Int.fdiv_eq_ediv_of_nonneg _ (by omega)]
section
variable (I : InsC) (n N cap : Nat) (t : TypeId)
abbrev s0 : Sto := [.arr .ro I.cols N t]
def SS : Option (Nat × (Nat → Int)) → St
  | none => S0 I n N t
  | some (i, b) => S1 I n N t b i
def II : Option (Nat × (Nat → Int)) → Prop
  | none => True
  | some (i, b) => i + 1 ≤ n ∧ ∀ j, j < 4 * (i + 1) → b j = byteW I.W j
def MU : Option (Nat × (Nat → Int)) → Nat
  | none => n + 1
  | some (i, b) => n - i
abbrev KB : Ex → St → Prop := bodyK False Try.prog (funcOf Try.prog 13) (KY I n (s0 I N t))
abbrev KC : Ex → St → Prop := ctxK Try.prog 1 p1 (codeOf Try.prog 13) (KB I n N t)
theorem end1 (i : Nat) (b : Nat → Int) (ha : I.all n) (h : i + 1 = n) (hb : ∀ j, j < 4 * (i + 1) → b j = byteW I.W j) : KC I n N t (.exit 0) (S1 I n N t b i) := by
  unfold KC
  rw [after1]
  refine CodeB.of (evG_ok EB_ok names mixed (n := 40) ?_)
  have hp := post1_eq I n N t b i (KY I n (s0 I N t))
  unfold KB
  rw [hp]
  subst h
  exact ⟨fun _ => ⟨rfl, b, hb, rfl⟩, fun h => absurd ha h⟩
theorem round0 (ha : I.all n) (h0 : 0 < n) : body0_f I n N t (RK 1 (SS I n N t) (II I n) (MU n) none (KC I n N t)) := by
  unfold body0_f
  have c1 : decide ((0 : Int) < (n : Int)) = true := decide_eq_true (by omega)
  have c2 : Nat.blt 0 n = true := blt_yes (by omega)
  simp only [c1, c2]
  refine RK.go (y := some (0, _)) rfl ⟨by omega, fun j hj => ?_⟩ (by show n - 0 < n + 1; omega)
  have e1 : j / 4 = 0 := by omega
  have e2 : j % 4 = j := by omega
  unfold byteW
  rw [e1, e2]
  exact four (I.W 0) j (by omega)
theorem round1 (i : Nat) (b : Nat → Int) (ha : I.all n) (hn : n ≤ 200000) (hi : i + 1 ≤ n) (hb : ∀ j, j < 4 * (i + 1) → b j = byteW I.W j) : body1_f I n N t b i (RK 1 (SS I n N t) (II I n) (MU n) (some (i, b)) (KC I n N t)) := by
  unfold body1_f
  simp only [toNat0]
  by_cases h0 : i + 1 = n
  · have c1 : decide (((i + 1 : Nat) : Int) < (n : Int)) = false := decide_eq_false (by omega)
    simp only [c1]
    exact end1 I n N t i b ha h0 hb
  · have c1 : decide (((i + 1 : Nat) : Int) < (n : Int)) = true := decide_eq_true (by omega)
    have c2 : Nat.blt (i + 1) n = true := blt_yes (by omega)
    have c3 := ble_self (4 * (i + 1))
    have c4 : growOk (4 * (i + 1) + 4) 1 = true := grow_ok (by omega) (by omega)
    have c5 := wrap_next (i := i + 1) (by omega)
    simp only [c1, c2, c3, c4, c5]
    refine RK.go (y := some (i + 1, _)) rfl ⟨by omega, fun j hj => ?_⟩ (by show n - (i + 1) < n - i; omega)
    by_cases hj2 : j < 4 * (i + 1)
    · have : Nat.blt j (4 * (i + 1)) = true := blt_yes hj2
      simp only [this]; exact hb j hj2
    · have : Nat.blt j (4 * (i + 1)) = false := by
        cases h : Nat.blt j (4 * (i + 1)) with
        | true => rw [Nat.blt_eq] at h; omega
        | false => rfl
      simp only [this]
      have e1 : j / 4 = i + 1 := by omega
      have e2 : j % 4 = j - 4 * (i + 1) := by omega
      unfold byteW
      rw [e1, e2]
      exact four (I.W (i + 1)) (j - 4 * (i + 1)) (by omega)
theorem bytes_call (h0 : 0 < n) (hN : n ≤ N) (hn : n ≤ 200000) : CallOk Try.prog 13 [.sle 0 7 0 n cap] (s0 I N t) (KY I n (s0 I N t)) := by
  refine CallOk.fnB names (by kernel_rfl) ?_
  refine evTo_ok EB_ok names mixed (n := 40) (b := 1) (Z := fun st => I.all n ∧ gcSt 1 live st = S0 I n N t) p1 _ _ _ (fun st hz => ?_) ?_
  · obtain ⟨ha, hz⟩ := hz
    refine CodeB.lop (by kernel_rfl) (LoopB.byE EB_ok names mixed (N := 40) (SS I n N t) (II I n) (MU n) live (fun x hi => ?_) st none (by have h := gc_tells 1 live st; rw [hz] at h; exact h) trivial)
    cases x with
    | none =>
      have hp := body0_eq I n N t (RK 1 (SS I n N t) (II I n) (MU n) none (KC I n N t))
      exact hp.mpr (round0 I n N t ha h0)
    | some y =>
      obtain ⟨i, b⟩ := y
      have hp := body1_eq I n N t b i (RK 1 (SS I n N t) (II I n) (MU n) (some (i, b)) (KC I n N t))
      exact hp.mpr (round1 I n N t i b ha hn hi.1 hi.2)
  · have hp := pre_eq I n N cap t (KY I n (s0 I N t)) fun st => I.all n ∧ st = S0 I n N t
    refine hp.mpr ?_
    unfold pre_f
    have c1 : Nat.ble n N = true := Nat.ble_eq_true_of_le hN
    have c2 : Nat.ble n 1000000 = true := Nat.ble_eq_true_of_le (by omega)
    have c3 : Nat.beq n 0 = false := by
      cases h : Nat.beq n 0 with
      | true => have := Nat.eq_of_beq_eq_true h; omega
      | false => rfl
    simp only [c1, c2, c3]
    by_cases ha : I.all n
    · have c4 : decide (I.all n) = true := decide_eq_true ha
      simp only [c4]
      exact ⟨ha, rfl⟩
    · have c4 : decide (I.all n) = false := decide_eq_false ha
      simp only [c4]
      exact ⟨fun h => absurd h ha, fun _ => ⟨rfl, rfl⟩⟩
end
/-- enc.Bytes, as a table's line. -/
def bytesA : List V → Sto → Option Ans := fun args s => match args with
  | [.sle i 7 0 n _] => match s[i]? with
    | some (.arr _ cols N _) => match readInsC cols with
      | some I => some (.br (Nat.ble n N) (.br (Nat.ble n 200000) (.br (Nat.beq n 0) .no (.br (decide (I.all n)) (.one (.ret (.tup [.lse (s.length + 1) s.length 1 0 (4 * n), .raw (.int .i64 0)])) (s ++ [.no, .arr (.grow s.length) [.int .u8 (byteW I.W)] (4 * n) 5])) (.one (.ret (.tup [nilS, .raw (.int .i64 1)])) s))) .no) .no)
      | none => none
    | _ => none
  | _ => none
theorem gc_eq (I : InsC) (n N : Nat) (t : TypeId) (b : Nat → Int) : gcSt 1 [0] ⟨1, [(0, .tup [.lse 2 1 1 0 (4 * n), .raw (.int .i64 0)])], s0 I N t ++ [.no, .arr (.grow 1) [.int .u8 b] (4 * n) 5, .no, .arr (.grow 3) [.int .u32 I.W] n 25]⟩ =
    ⟨1, [(0, .tup [.lse 2 1 1 0 (4 * n), .raw (.int .i64 0)])], s0 I N t ++ [.no, .arr (.grow 1) [.int .u8 b] (4 * n) 5]⟩ := by kernel_rfl
theorem bytesA_ok {E : Eh} (hE : EOk Try.prog E) : EOk Try.prog (addE 13 bytesA E) := by
  refine addE_ok hE fun args s a h hf => ?_
  unfold bytesA at h
  split at h
  · rename_i i n cap
    split at h
    · rename_i m cols N t hi
      split at h
      · rename_i I hr
        cases h
        obtain rfl := readInsC_eq hr
        rcases hf with ⟨c1, hf⟩ | ⟨_, hf⟩
        · rcases hf with ⟨c2, hf⟩ | ⟨_, hf⟩
          · rcases hf with ⟨_, hf⟩ | ⟨c3, _⟩
            · exact hf.elim
            · have hN : n ≤ N := Nat.le_of_ble_eq_true c1
              have hn : n ≤ 200000 := Nat.le_of_ble_eq_true c2
              have h0 : n ≠ 0 := fun e => by subst e; cases c3
              have hc := bytes_call I n N cap t (by omega) hN hn
              by_cases ha : I.all n
              · refine CallOk.mono (K := fun r s' => r = .ret (.tup [.lse (s.length + 1) s.length 1 0 (4 * n), .raw (.int .i64 0)]) ∧ s' = s ++ [.no, .arr (.grow s.length) [.int .u8 (byteW I.W)] (4 * n) 5]) ?_ fun r s' ⟨h1, h2⟩ => .inl ⟨c1, .inl ⟨c2, .inr ⟨c3, .inl ⟨decide_eq_true ha, h1, h2⟩⟩⟩⟩
                refine CallOk.frame1 (args0 := [.sle 0 7 0 n cap]) hi ⟨Nat.zero_lt_one, trivial⟩ (CallOk.eqv (CallOk.gc (hc.mono fun r s' hk => ?_)))
                obtain ⟨h1, b, h2, h3⟩ := hk.1 ha
                subst h1 h3
                refine ⟨.tup [.lse 2 1 1 0 (4 * n), .raw (.int .i64 0)], ?_, ?_⟩
                · show find (gcSt 1 [0] _).t 0 = _
                  rw [gc_eq]; rfl
                · show ∃ s'', stoEqv (gcSt 1 [0] _).s s'' ∧ _
                  rw [gc_eq]
                  refine ⟨[.arr .ro I.cols N t, .no, .arr (.grow 1) [.int .u8 (byteW I.W)] (4 * n) 5], ⟨.inl rfl, .inl rfl, .inr ⟨rfl, rfl, rfl, ⟨rfl, h2⟩, trivial⟩, trivial⟩, [.no, .arr (.grow 1) [.int .u8 (byteW I.W)] (4 * n) 5], rfl, rfl, ?_, ?_⟩
                  · simp [Res.ren, V.ren, renL, piX_11, piX_12]
                  · simp [Ent.ren, piX_11]
              · refine CallOk.mono (K := fun r s' => r = .ret (.tup [nilS, .raw (.int .i64 1)]) ∧ s' = s) ?_ fun r s' ⟨h1, h2⟩ => .inl ⟨c1, .inl ⟨c2, .inr ⟨c3, .inr ⟨decide_eq_false ha, h1, h2⟩⟩⟩⟩
                refine CallOk.frame1 (args0 := [.sle 0 7 0 n cap]) hi ⟨Nat.zero_lt_one, trivial⟩ (hc.mono fun r s' hk => ?_)
                obtain ⟨h1, h2⟩ := hk.2 ha
                subst h1 h2
                refine ⟨[], by simp, rfl, ?_, by simp⟩
                simp [Res.ren, V.ren, renL, nilS]
          · exact hf.elim
        · exact hf.elim
      · cases h
    · cases h
  · cases h
end Go.Proofs.Ytbjikmepfpkmjaa.encBytes
