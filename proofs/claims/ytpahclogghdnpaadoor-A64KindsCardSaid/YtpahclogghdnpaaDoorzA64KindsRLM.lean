/- RL, between the fifth and the sixth text: keys of maps. -/
import Derived.Test.YtpahclogghdnpaaDoorzA64KindsRL5
import Derived.MapKept
import Derived.WideKeyRuns
namespace Go.Proofs.YtpahclogghdnpaaDoorRL
open Go
set_option linter.unusedVariables false
set_option linter.unusedSimpArgs false
section
variable {P : Program} {ρ : Rho} {w : World}
theorem vCheck_succ (n : Nat) (t : TypeId) (v : V) : vCheck P (n + 1) t v = (match P.underlying t with
    | some .bool | some (.int _) | some .string => true
    | some (.struct fs) => match v with
      | .agg cs => vCheckF (vCheck P n) P cs fs.toList
      | _ => false
    | _ => false) := rfl
theorem check_sound (em : Bool) : ∀ (n : Nat) (t : TypeId) (v : V), vCheck P n t v = true → ∀ m, (Instr.checkKey em (n + m) t (v.abs ρ)).run P w = .ok () w := by
  intro n
  induction n with
  | zero => intro t v h; cases h
  | succ n ih =>
    intro t v h m
    rw [vCheck_succ] at h
    rw [show n + 1 + m = (n + m) + 1 by omega]
    have plain : ∀ d, P.underlying t = some d → (match d with | .bool | .int _ | .string => true | _ => false) = true → (Instr.checkKey em (n + m + 1) t (v.abs ρ)).run P w = .ok () w := by
      intro d hd hs
      rw [Instr.checkKey]
      simp only [Sem.run_bind, run_underlying hd, Result.andThen_ok]
      cases d <;> simp at hs <;> simp
    split at h
    · rename_i hu; exact plain _ hu rfl
    · rename_i hu; exact plain _ hu rfl
    · rename_i hu; exact plain _ hu rfl
    · rename_i fs hu
      split at h
      · rename_i cs
        rw [Instr.checkKey]
        simp only [Sem.run_bind, run_underlying hu, Result.andThen_ok, V.abs]
        rw [← Array.forIn_toList]
        generalize fs.toList = L at h
        induction L with
        | nil => simp
        | cons f L ihL =>
          simp only [vCheckF] at h
          simp only [List.forIn_cons, Sem.run_bind]
          split at h
          · rename_i hn
            have hn : f.name = "_" := by simpa using hn
            simp only [hn, ne_eq, not_true_eq_false, if_false, Sem.run_pure, Result.andThen_ok]
            exact ihL h
          · rename_i hn
            have hn : ¬ f.name = "_" := by simpa using hn
            split at h
            · rename_i a ha
              split at h
              · rename_i hc
                simp only [hn, ne_eq, not_false_eq_true, if_true, Sem.run_bind, run_part ha, ih f.type a hc m, Sem.run_pure, Result.andThen_ok]
                exact ihL h
              · cases h
            · cases h
      · cases h
    · cases h
theorem bit_sound {x y : V} (h : vBit x y = true) (n : Nat) : Instr.sameBits n (x.abs ρ) (y.abs ρ) = true := by
  unfold vBit at h
  split at h
  · simp only [Bool.and_eq_true] at h
    have := kindEq_eq h.1
    subst this
    cases n <;> simp [V.abs, Instr.sameBits] <;> simpa using h.2
  · cases n <;> simp [V.abs, Instr.sameBits] <;> simpa using h
  · cases n <;> simp [V.abs, Instr.sameBits] <;> simpa using h
  · cases h
theorem bitL_sound (n : Nat) : ∀ {xs ys : List V}, vBitL xs ys = true → xs.length = ys.length ∧ (((absL ρ xs).zip (absL ρ ys)).all fun p => Instr.sameBits n p.1 p.2) = true := by
  intro xs
  induction xs with
  | nil => intro ys h; cases ys with
    | nil => simp [absL]
    | cons y ys => cases h
  | cons x xs ih => intro ys h; cases ys with
    | nil => cases h
    | cons y ys =>
      simp only [vBitL, Bool.and_eq_true] at h
      obtain ⟨h1, h2⟩ := ih h.2
      refine ⟨by simp [h1], ?_⟩
      simp only [absL, List.zip_cons_cons, List.all_cons, Bool.and_eq_true]
      exact ⟨bit_sound h.1 n, h2⟩
theorem bits_sound {x y : V} (h : vBits x y = true) (n : Nat) : Instr.sameBits (n + 1) (x.abs ρ) (y.abs ρ) = true := by
  unfold vBits at h
  split at h
  · obtain ⟨h1, h2⟩ := bitL_sound (ρ := ρ) n h
    simp only [V.abs, Instr.sameBits, Bool.and_eq_true]
    refine ⟨by simp [absL_length, h1], ?_⟩
    simpa using h2
  · exact bit_sound h _
def narrow : TypeDesc → Bool
  | .int _ | .string | .bool => true
  | _ => false
def broad : TypeDesc → Bool
  | .struct _ | .array _ _ => true
  | _ => false
theorem keyEq_sound {d : TypeDesc} {kt : TypeId} {k key : V} {b : Bool} (h : vKeyEq P d kt k key = some b) :
    (narrow d = true ∧ Instr.sameNow d (k.abs ρ) (key.abs ρ) = some b) ∨ (narrow d = false ∧ broad d = true ∧ ∀ w, (Op.equal kt (k.abs ρ) (key.abs ρ)).run P w = .ok b w) := by
  cases d
  case int q =>
    simp only [vKeyEq] at h
    split at h
    · split at h
      · rename_i hk
        have := kindEq_eq hk
        subst this
        exact .inl ⟨rfl, by simpa [V.abs, Instr.sameNow] using h⟩
      · cases h
    · cases h
  case string =>
    simp only [vKeyEq] at h
    split at h
    · exact .inl ⟨rfl, by simpa [V.abs, Instr.sameNow] using h⟩
    · cases h
  case bool =>
    simp only [vKeyEq] at h
    split at h
    · exact .inl ⟨rfl, by simpa [V.abs, Instr.sameNow] using h⟩
    · cases h
  case struct fs => exact .inr ⟨rfl, rfl, fun w => vEq_sound _ _ _ _ _ h w⟩
  case array n e => exact .inr ⟨rfl, rfl, fun w => vEq_sound _ _ _ _ _ h w⟩
  all_goals cases h
theorem find_sound {R : Type} {no : R} {T : R → Prop} (hno : ¬ T no) {d : TypeDesc} {kt : TypeId} {k : V} {found : Nat → V × V × Nat → R} {nn : R} : ∀ (es : List (V × V × Nat)) (i : Nat), T (vFindK no P d kt k found nn es i) →
    ∃ r, ((narrow d = true → Instr.findNow d (k.abs ρ) (es.map (absE ρ)) i = some r) ∧ (narrow d = false → (Instr.findAsking kt (k.abs ρ) (es.map (absE ρ)) i).run P w = .ok r w)) ∧
      ((r = none ∧ T nn) ∨ ∃ j e, es[j]? = some e ∧ r = some (i + j, e.2.1.abs ρ) ∧ T (found (i + j) e)) := by
  intro es
  induction es with
  | nil => intro i h; exact ⟨none, ⟨fun _ => rfl, fun _ => rfl⟩, .inl ⟨rfl, h⟩⟩
  | cons e es ih =>
    intro i h
    simp only [vFindK] at h
    obtain ⟨b, hb, h⟩ := Wi.out hno h
    have hs := keyEq_sound (ρ := ρ) hb
    rcases Br.out h with ⟨rfl, h⟩ | ⟨rfl, h⟩
    · refine ⟨some (i, e.2.1.abs ρ), ⟨fun hn => ?_, fun hn => ?_⟩, .inr ⟨0, e, rfl, rfl, h⟩⟩
      · rcases hs with ⟨_, hs⟩ | ⟨h2, _⟩
        · simp only [List.map_cons, Instr.findNow, absE, hs]
        · rw [hn] at h2; cases h2
      · rcases hs with ⟨h2, _⟩ | ⟨_, _, hs⟩
        · rw [hn] at h2; cases h2
        · simp [Instr.findAsking, absE, hs]
    · obtain ⟨r, ⟨r1, r2⟩, r3⟩ := ih (i + 1) h
      refine ⟨r, ⟨fun hn => ?_, fun hn => ?_⟩, ?_⟩
      · rcases hs with ⟨_, hs⟩ | ⟨h2, _⟩
        · simp only [List.map_cons, Instr.findNow, absE, hs]; exact r1 hn
        · rw [hn] at h2; cases h2
      · rcases hs with ⟨h2, _⟩ | ⟨_, _, hs⟩
        · rw [hn] at h2; cases h2
        · simp only [List.map_cons, Instr.findAsking, Sem.run_bind, absE, hs, Result.andThen_ok]; exact r2 hn
      · rcases r3 with h3 | ⟨j, e', j1, j2, j3⟩
        · exact .inl h3
        · exact .inr ⟨j + 1, e', j1, by rw [j2]; congr 2; omega, by rw [show i + (j + 1) = i + 1 + j by omega]; exact j3⟩
/-- A key's entry, as the machine finds it. -/
theorem findKey_sound {R : Type} {no : R} {T : R → Prop} (hno : ¬ T no) {d : TypeDesc} {kt : TypeId} {k : V} {found : Nat → V × V × Nat → R} {nn : R} (hd : P.underlying kt = some d) {es : List (V × V × Nat)} (h : T (vFindK no P d kt k found nn es 0)) :
    ∃ r, (Instr.findKey kt (k.abs ρ) (es.map (absE ρ))).run P w = .ok r w ∧ ((r = none ∧ T nn) ∨ ∃ j e, es[j]? = some e ∧ r = some (j, e.2.1.abs ρ) ∧ T (found j e)) := by
  obtain ⟨r, ⟨r1, r2⟩, r3⟩ := find_sound (ρ := ρ) (w := w) hno es 0 h
  refine ⟨r, ?_, ?_⟩
  · cases hn : narrow d with
    | true => exact Go.MapKept.run_findKey hd (r1 hn)
    | false =>
      cases es with
      | nil =>
        have := r2 hn
        simp only [List.map_nil, Instr.findAsking, Sem.run_pure] at this
        simp only [List.map_nil, Instr.findKey, Sem.run_bind, run_underlying hd, Result.andThen_ok, Instr.findNow, Sem.run_pure]
        exact this
      | cons e es =>
        have hb : broad d = true := by
          simp only [vFindK] at h
          obtain ⟨b, hb, _⟩ := Wi.out hno h
          rcases keyEq_sound (ρ := ρ) hb with ⟨h2, _⟩ | ⟨_, h3, _⟩
          · rw [hn] at h2; cases h2
          · exact h3
        rw [run_findKey_eq w (by rw [hd]; cases d <;> simp [broad] at hb <;> rfl)]
        exact r2 hn
  · simpa using r3
end
end Go.Proofs.YtpahclogghdnpaaDoorRL
