/- enc.Words: the words of a row of instructions, or the first one's error. -/
import Derived.Test.YtbjikmepfpkmjaazEncRowsPWordsF
import Derived.Test.YtbjikmepfpkmjaazEncRowsRLT
namespace Go.Proofs.Ytbjikmepfpkmjaa.encWords
open Go Go.Proofs Go.Proofs.YtbjikmepfpkmjaaRL Go.Proofs.Ytbjikmepfpkmjaa.isa
set_option linter.unusedVariables false
set_option linter.unusedSimpArgs false
abbrev nilS : V := .raw (.slice none 0 0)
theorem EW_ok : EOk Try.prog EW := wordG_ok noE_ok
/-- What enc.Words leaves. -/
def KW (I : InsC) (n : Nat) (s : Sto) (r : Res) (s' : Sto) : Prop :=
  (I.all n → n = 0 → r = .ret (.tup [nilS, .raw (.int .i64 0)]) ∧ s' = s) ∧
  (I.all n → 0 < n → r = .ret (.tup [.lse 2 1 1 0 n, .raw (.int .i64 0)]) ∧ ∃ b, (∀ j, j < n → b j = I.W j) ∧ s' = s ++ [.no, .arr (.grow 1) [.int .u32 b] n 25]) ∧
  (¬ I.all n → r = .ret (.tup [nilS, .raw (.int .i64 1)]) ∧ (s' = s ∨ ∃ b i, s' = s ++ [.no, .arr (.grow 1) [.int .u32 b] i 25]))
theorem E_not {I : InsC} {j : Nat} (h : ¬ I.E j = 0) : I.E j = 1 := (E_01 I j).resolve_left h
theorem after1 (K : Ex → St → Prop) (st : St) : ctxK Try.prog 1 p1 (codeOf Try.prog 12) K (.exit 0) st = CodeB Try.prog 1 c1 st K := by kernel_rfl
section
variable (I : InsC) (n N cap : Nat) (t : TypeId)
abbrev s0 : Sto := [.arr .ro I.cols N t]
def SS : Option (Nat × (Nat → Int)) → St
  | none => S0 I n N cap t
  | some (i, b) => S1 I n N cap t b i
def II : Option (Nat × (Nat → Int)) → Prop
  | none => True
  | some (i, b) => i + 1 ≤ n ∧ ∀ j, j ≤ i → b j = I.W j ∧ I.E j = 0
def MU : Option (Nat × (Nat → Int)) → Nat
  | none => n + 1
  | some (i, b) => n - i
abbrev KB : Ex → St → Prop := bodyK False Try.prog (funcOf Try.prog 12) (KW I n (s0 I N t))
abbrev KC : Ex → St → Prop := ctxK Try.prog 1 p1 (codeOf Try.prog 12) (KB I n N t)
theorem end0 (h : n = 0) : KC I n N t (.exit 0) (S0 I n N cap t) := by
  unfold KC
  rw [after1]
  refine CodeB.of (evG_ok EW_ok names mixed (n := 40) ?_)
  have hp := post0_eq I n N cap t (KW I n (s0 I N t))
  unfold KB
  rw [hp]
  subst h
  exact ⟨fun _ _ => ⟨rfl, rfl⟩, fun _ h => absurd h (by omega), fun h => absurd (fun j hj => absurd hj (by omega)) h⟩
theorem end1 (i : Nat) (b : Nat → Int) (h : i + 1 = n) (hb : ∀ j, j ≤ i → b j = I.W j ∧ I.E j = 0) : KC I n N t (.exit 0) (S1 I n N cap t b i) := by
  unfold KC
  rw [after1]
  refine CodeB.of (evG_ok EW_ok names mixed (n := 40) ?_)
  have hp := post1_eq I n N cap t b i (KW I n (s0 I N t))
  unfold KB
  rw [hp]
  subst h
  exact ⟨fun _ h => absurd h (by omega), fun _ _ => ⟨rfl, b, fun j hj => (hb j (by omega)).1, rfl⟩, fun h => absurd (fun j hj => (hb j (by omega)).2) h⟩
theorem bad (v4 v9 v10 v11 : V) (s' : Sto) (h : ¬ I.all n) (hs : s' = s0 I N t ∨ ∃ b i, s' = s0 I N t ++ [.no, .arr (.grow 1) [.int .u32 b] i 25]) : KC I n N t .ret ⟨29, [(2, nilS), (3, .raw (.int .i64 1)), (4, v4), (9, v9), (10, v10), (11, v11)], s'⟩ := by
  have hp := onret_eq nilS (.raw (.int .i64 1)) v4 v9 v10 v11 s' (KW I n (s0 I N t))
  unfold KC KB
  rw [hp]
  exact ⟨fun h' => absurd h' h, fun h' => absurd h' h, fun _ => ⟨rfl, hs⟩⟩
theorem round0 (hN : n ≤ N) : body0_f I n N cap t (RK 1 (SS I n N cap t) (II I n) (MU n) none (KC I n N t)) := by
  unfold body0_f
  by_cases h0 : n = 0
  · subst h0
    exact end0 I 0 N cap t rfl
  · have c1 : decide ((0 : Int) < (n : Int)) = true := decide_eq_true (by omega)
    have c2 : Nat.blt 0 N = true := blt_yes (by omega)
    simp only [c1, c2]
    by_cases he : I.E 0 = 0
    · have e1 : chkV (I.op 0) (I.d 0) (I.n 0) (I.m 0) (I.a 0) (I.c 0) (I.im 0) = 0 := he
      simp only [e1, bne_self_eq_false]
      refine RK.go (y := some (0, _)) rfl ⟨by omega, fun j hj => ?_⟩ (by show n - 0 < n + 1; omega)
      obtain rfl : j = 0 := by omega
      exact ⟨rfl, he⟩
    · have e1 : chkV (I.op 0) (I.d 0) (I.n 0) (I.m 0) (I.a 0) (I.c 0) (I.im 0) = 1 := E_not he
      simp only [e1]
      exact bad I n N t _ _ _ _ _ (fun h => he (h 0 (by omega))) (.inl rfl)
theorem round1 (i : Nat) (b : Nat → Int) (hN : n ≤ N) (hn : n ≤ 1000000) (hi : i + 1 ≤ n) (hb : ∀ j, j ≤ i → b j = I.W j ∧ I.E j = 0) : body1_f I n N cap t b i (RK 1 (SS I n N cap t) (II I n) (MU n) (some (i, b)) (KC I n N t)) := by
  unfold body1_f
  simp only [toNat0]
  by_cases h0 : i + 1 = n
  · have c1 : decide (((i + 1 : Nat) : Int) < (n : Int)) = false := decide_eq_false (by omega)
    simp only [c1]
    exact end1 I n N cap t i b h0 hb
  · have c1 : decide (((i + 1 : Nat) : Int) < (n : Int)) = true := decide_eq_true (by omega)
    have c2 : Nat.blt (i + 1) N = true := blt_yes (by omega)
    have c3 := ble_self (i + 1)
    have c4 : growOk (i + 1 + 1) 4 = true := grow_ok (by omega) (by omega)
    have c5 := wrap_next (i := i + 1) (by omega)
    simp only [c1, c2, c3, c4, c5]
    by_cases he : I.E (i + 1) = 0
    · have e1 : chkV (I.op (i + 1)) (I.d (i + 1)) (I.n (i + 1)) (I.m (i + 1)) (I.a (i + 1)) (I.c (i + 1)) (I.im (i + 1)) = 0 := he
      simp only [e1, bne_self_eq_false]
      refine RK.go (y := some (i + 1, _)) rfl ⟨by omega, fun j hj => ?_⟩ (by show n - (i + 1) < n - i; omega)
      by_cases hj2 : j ≤ i
      · have : Nat.blt j (i + 1) = true := blt_yes (by omega)
        exact ⟨by simp only [this]; exact (hb j hj2).1, (hb j hj2).2⟩
      · obtain rfl : j = i + 1 := by omega
        have : Nat.blt (i + 1) (i + 1) = false := by
          cases h : Nat.blt (i + 1) (i + 1) with
          | true => rw [Nat.blt_eq] at h; omega
          | false => rfl
        refine ⟨?_, he⟩
        simp only [this, Nat.sub_self]
        rfl
    · have e1 : chkV (I.op (i + 1)) (I.d (i + 1)) (I.n (i + 1)) (I.m (i + 1)) (I.a (i + 1)) (I.c (i + 1)) (I.im (i + 1)) = 1 := E_not he
      simp only [e1]
      exact bad I n N t _ _ _ _ _ (fun h => he (h (i + 1) (by omega))) (.inr ⟨_, _, rfl⟩)
theorem words_call (hN : n ≤ N) (hn : n ≤ 1000000) : CallOk Try.prog 12 [.sle 0 7 0 n cap] (s0 I N t) (KW I n (s0 I N t)) := by
  refine CallOk.fnB names (by kernel_rfl) ?_
  refine evTo_ok EW_ok names mixed (n := 40) (b := 1) (Z := fun st => gcSt 1 live st = S0 I n N cap t) p1 _ _ _ (fun st hz => ?_) ?_
  · refine CodeB.lop (by kernel_rfl) (LoopB.byE EW_ok names mixed (N := 40) (SS I n N cap t) (II I n) (MU n) live (fun x hi => ?_) st none (by have h := gc_tells 1 live st; rw [hz] at h; exact h) trivial)
    cases x with
    | none =>
      have hp := body0_eq I n N cap t (RK 1 (SS I n N cap t) (II I n) (MU n) none (KC I n N t))
      exact hp.mpr (round0 I n N cap t hN)
    | some y =>
      obtain ⟨i, b⟩ := y
      have hp := body1_eq I n N cap t b i (RK 1 (SS I n N cap t) (II I n) (MU n) (some (i, b)) (KC I n N t))
      exact hp.mpr (round1 I n N cap t i b hN hn hi.1 hi.2)
  · have hp := pre_eq I n N cap t (KW I n (s0 I N t)) fun st => st = S0 I n N cap t
    exact hp.mpr rfl
end
end Go.Proofs.Ytbjikmepfpkmjaa.encWords
namespace Go.Proofs.Ytbjikmepfpkmjaa.encWords
open Go Go.Proofs Go.Proofs.YtbjikmepfpkmjaaRL Go.Proofs.Ytbjikmepfpkmjaa.isa
/-- enc.Words, as a table's line. -/
def wordsA : List V → Sto → Option Ans := fun args s => match args with
  | [.sle i 7 0 n _] => match s[i]? with
    | some (.arr _ cols N _) => match readInsC cols with
      | some I => some (.br (Nat.ble n N) (.br (Nat.ble n 1000000) (.br (Nat.beq n 0) .no (.br (decide (I.all n)) (.one (.ret (.tup [.lse (s.length + 1) s.length 1 0 n, .raw (.int .i64 0)])) (s ++ [.no, .arr (.grow s.length) [.int .u32 I.W] n 25])) (.one (.ret (.tup [nilS, .raw (.int .i64 1)])) s))) .no) .no)
      | none => none
    | _ => none
  | _ => none
theorem wordsA_ok {E : Eh} (hE : EOk Try.prog E) : EOk Try.prog (addE 12 wordsA E) := by
  refine addE_ok hE fun args s a h hf => ?_
  unfold wordsA at h
  split at h
  · rename_i i n cap
    split at h
    · rename_i m cols N t hi
      split at h
      · rename_i I hr
        cases h
        obtain rfl := readInsC_eq hr
        rcases hf with ⟨c1, hf⟩ | ⟨_, hf⟩
        · rcases hf with ⟨c2, hf⟩ | ⟨_, hf⟩
          · rcases hf with ⟨_, hf⟩ | ⟨c3, _⟩
            · exact hf.elim
            · have hN : n ≤ N := Nat.le_of_ble_eq_true c1
              have hn : n ≤ 1000000 := Nat.le_of_ble_eq_true c2
              have h0 : n ≠ 0 := fun e => by subst e; cases c3
              have hc := words_call I n N cap t hN hn
              by_cases ha : I.all n
              · refine CallOk.mono (K := fun r s' => r = .ret (.tup [.lse (s.length + 1) s.length 1 0 n, .raw (.int .i64 0)]) ∧ s' = s ++ [.no, .arr (.grow s.length) [.int .u32 I.W] n 25]) ?_ fun r s' ⟨h1, h2⟩ => .inl ⟨c1, .inl ⟨c2, .inr ⟨c3, .inl ⟨decide_eq_true ha, h1, h2⟩⟩⟩⟩
                refine CallOk.frame1 (args0 := [.sle 0 7 0 n cap]) hi ⟨Nat.zero_lt_one, trivial⟩ (CallOk.eqv (hc.mono fun r s' hk => ?_))
                obtain ⟨h1, b, h2, h3⟩ := hk.2.1 ha (by omega)
                subst h1 h3
                refine ⟨[.arr .ro I.cols N t, .no, .arr (.grow 1) [.int .u32 I.W] n 25], ⟨.inl rfl, .inl rfl, .inr ⟨rfl, rfl, rfl, ⟨rfl, h2⟩, trivial⟩, trivial⟩, [.no, .arr (.grow 1) [.int .u32 I.W] n 25], rfl, rfl, ?_, ?_⟩
                · simp [Res.ren, V.ren, renL, piX_11, piX_12]
                · simp [Ent.ren, piX_11]
              · refine CallOk.mono (K := fun r s' => r = .ret (.tup [nilS, .raw (.int .i64 1)]) ∧ s' = s) ?_ fun r s' ⟨h1, h2⟩ => .inl ⟨c1, .inl ⟨c2, .inr ⟨c3, .inr ⟨decide_eq_false ha, h1, h2⟩⟩⟩⟩
                refine CallOk.frame1 (args0 := [.sle 0 7 0 n cap]) hi ⟨Nat.zero_lt_one, trivial⟩ (CallOk.take (hc.mono fun r s' hk => ?_))
                obtain ⟨h1, h2⟩ := hk.2.2 ha
                subst h1
                have hs : s'.take 1 = [.arr .ro I.cols N t] := by rcases h2 with rfl | ⟨_, _, rfl⟩ <;> rfl
                refine ⟨⟨[], by show s'.take 1 = _; rw [hs]; rfl, rfl, ?_, ?_⟩, ⟨trivial, trivial, trivial⟩, ?_⟩
                · simp [Res.ren, V.ren, renL, nilS]
                · simp
                · show sbd (s'.take 1)
                  rw [hs]
                  intro j e he
                  cases j with
                  | zero => simp at he; subst he; trivial
                  | succ j => simp at he
          · exact hf.elim
        · exact hf.elim
      · cases h
    · cases h
  · cases h
end Go.Proofs.Ytbjikmepfpkmjaa.encWords
