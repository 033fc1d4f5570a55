/- RL and the rows of laws: arguments by value. -/
import Derived.Test.YtpahclogghdnpaaDoorzA64KindsRL13
import Derived.Test.YtpahclogghdnpaaDoorzA64KindsR
namespace Go.Proofs.YtpahclogghdnpaaDoorRL
open Go Go.ChangeShapes Go.WideShapes Go.ChangeAt Go.RowKit Go.Proofs.YtpahclogghdnpaaDoorR
set_option linter.unusedVariables false
set_option linter.unusedSimpArgs false
/-- A cell's kind. -/
inductive CK where
  | int (k : IntKind)
  | bool
def CK.ok : CK → Value → Prop
  | .int k, v => ∃ n, v = .int k n ∧ (Lit.int k n).wf = true
  | .bool, v => ∃ b, v = .bool b
def oks : List CK → List Value → Prop
  | [], [] => True
  | k :: ks, v :: vs => k.ok v ∧ oks ks vs
  | _, _ => False
theorem oks_append : ∀ {a b : List CK} {u v : List Value}, oks a u → oks b v → oks (a ++ b) (u ++ v) := by
  intro a
  induction a with
  | nil => intro b u v h k; cases u <;> simp_all [oks]
  | cons c a ih =>
    intro b u v h k
    cases u with
    | nil => exact h.elim
    | cons x u => exact ⟨h.1, ih h.2 k⟩
def reps (n : Nat) (l : List CK) : List CK := (List.replicate n l).flatten
/-- The kinds of a type's cells, where all are numbers and bools that lie one behind the other. -/
def kindsF (k : TypeId → Option (List CK)) (P : Program) : Nat → List Field → Option (List CK)
  | _, [] => some []
  | off, f :: fs => match k f.type with
    | some a => match Nat.beq f.offset off && Nat.beq a.length (P.cellsOf f.type) with
      | true => match kindsF k P (off + a.length) fs with
        | some b => some (a ++ b)
        | none => none
      | false => none
    | none => none
def kinds (P : Program) : Nat → TypeId → Option (List CK)
  | 0, _ => none
  | d + 1, t => match P.underlying t with
    | some .bool => some [.bool]
    | some (.int k) => some [.int k]
    | some (.struct fs) => match kindsF (kinds P d) P 0 fs.toList with
      | some l => match Nat.beq l.length (P.cellsOf t) with
        | true => some l
        | false => none
      | none => none
    | some (.array n e) => match kinds P d e with
      | some l => match Nat.beq l.length (P.cellsOf e) && Nat.beq (n * l.length) (P.cellsOf t) with
        | true => some (reps n l)
        | false => none
      | none => none
    | _ => none
section
variable {H : Type} {enc : TypeId × Value → H} {P : Program} {W : World} {base : Nat} {sp : Nat → Bool} {held : Bool}
theorem kindsF_sound {d m : Nat} (ih : ∀ t l, kinds P d t = some l → ∀ (fuel : Nat) cs (x : DataW H × List MemPlace), DataW.trod enc P W base sp held fuel t cs = some x → oks l cs) : ∀ (fs : List Field) (off : Nat) (l : List CK) (cs : List Value) (xs : List (DataW H × List MemPlace)),
    kindsF (kinds P d) P off fs = some l → off + l.length ≤ cs.length → (∀ (i : Nat) f, fs[i]? = some f → ∃ x, DataW.trod enc P W base sp held m f.type ((cs.drop f.offset).take (P.cellsOf f.type)) = some x) → oks l ((cs.drop off).take l.length) := by
  intro fs
  induction fs with
  | nil => intro off l cs xs h _ _; simp only [kindsF, Option.some.injEq] at h; subst h; simp [oks]
  | cons f fs ihf =>
    intro off l cs xs h hlen hf
    simp only [kindsF] at h
    split at h
    · rename_i a ha
      split at h
      · rename_i hc
        simp only [Bool.and_eq_true] at hc
        have h1 : f.offset = off := Nat.eq_of_beq_eq_true hc.1
        have h2 : a.length = P.cellsOf f.type := Nat.eq_of_beq_eq_true hc.2
        split at h
        · rename_i b hb
          simp only [Option.some.injEq] at h
          subst h
          obtain ⟨x, hx⟩ := hf 0 f rfl
          have o1 := ih _ _ ha _ _ _ hx
          rw [h1, ← h2] at o1
          have o2 := ihf (off + a.length) b cs xs hb (by simp at hlen; omega) (fun i g hg => hf (i + 1) g (by simpa using hg))
          have : (cs.drop off).take (a ++ b).length = (cs.drop off).take a.length ++ ((cs.drop (off + a.length)).take b.length) := by
            rw [List.length_append, List.take_add, List.drop_drop]
          rw [this]
          exact oks_append o1 o2
        · cases h
      · cases h
    · cases h
theorem kinds_sound : ∀ (d : Nat) (t : TypeId) (l : List CK), kinds P d t = some l → ∀ (fuel : Nat) cs (x : DataW H × List MemPlace), DataW.trod enc P W base sp held fuel t cs = some x → oks l cs := by
  intro d
  induction d with
  | zero => intro t l h; simp [kinds] at h
  | succ d ih =>
    intro t l h fuel cs x hx
    simp only [kinds] at h
    split at h
    · rename_i ht
      simp only [Option.some.injEq] at h; subst h
      obtain ⟨b, rfl, _⟩ := DataW.trod_bool ht hx
      exact ⟨⟨b, rfl⟩, trivial⟩
    · rename_i k ht
      simp only [Option.some.injEq] at h; subst h
      obtain ⟨n, rfl, _, hw⟩ := DataW.trod_int ht hx
      exact ⟨⟨n, rfl, hw⟩, trivial⟩
    · rename_i fs ht
      split at h
      · rename_i l' hl
        split at h
        · rename_i hc
          simp only [Option.some.injEq] at h; subst h
          have hc' := Nat.eq_of_beq_eq_true hc
          obtain ⟨xs, n, _, _, hlen, hxl, hg⟩ := DataW.trod_struct ht hx
          have := kindsF_sound (m := n) ih fs.toList 0 l' cs xs hl (by omega) (fun i f hf => by
            have hf' : fs[i]? = some f := by simpa using hf
            have hi : i < xs.length := by rw [hxl]; exact (Array.getElem?_eq_some_iff.1 hf').1
            exact ⟨xs[i], by rw [hg i f hf', List.getElem?_eq_getElem hi]⟩)
          rw [List.drop_zero, List.take_of_length_le (by omega)] at this
          exact this
        · cases h
      · cases h
    · rename_i n e ht
      split at h
      · rename_i l' hl
        split at h
        · rename_i hc
          simp only [Bool.and_eq_true] at hc
          simp only [Option.some.injEq] at h; subst h
          have h1 : l'.length = P.cellsOf e := Nat.eq_of_beq_eq_true hc.1
          have h2 : n * l'.length = P.cellsOf t := Nat.eq_of_beq_eq_true hc.2
          obtain ⟨xs, m, _, _, hlen, hxl, hg⟩ := DataW.trod_array ht hx
          have key : ∀ k, k ≤ n → oks (reps k l') (cs.take (k * l'.length)) := by
            intro k
            induction k with
            | zero => intro _; simp [reps, oks]
            | succ k ihk =>
              intro hk
              have o1 := ihk (by omega)
              have hi : k < xs.length := by omega
              have o2 := ih _ _ hl _ _ _ ((hg k (by omega)).trans (List.getElem?_eq_getElem hi))
              rw [← h1] at o2
              have e1 : reps (k + 1) l' = reps k l' ++ l' := by simp [reps, List.replicate_succ', List.flatten_append]
              have e2 : cs.take ((k + 1) * l'.length) = cs.take (k * l'.length) ++ ((cs.drop (k * l'.length)).take l'.length) := by
                rw [Nat.succ_mul, List.take_add]
              rw [e1, e2]
              exact oks_append o1 o2
          have := key n (Nat.le_refl _)
          rw [List.take_of_length_le (by omega)] at this
          exact this
        · cases h
      · cases h
    · cases h
end
/-- An argument: one cell, or some. -/
inductive AK where
  | one (c : CK)
  | agg (cs : List CK)
def rawsOk : List CK → List V → Prop
  | [], [] => True
  | k :: ks, .raw v :: vs => k.ok v ∧ rawsOk ks vs
  | _, _ => False
def argsOk : List AK → List V → Prop
  | [], [] => True
  | .one c :: ks, .raw v :: vs => c.ok v ∧ argsOk ks vs
  | .agg cs :: ks, .agg ws :: vs => rawsOk cs ws ∧ argsOk ks vs
  | _, _ => False
theorem rawsOk_of : ∀ {ks : List CK} {cs : List Value}, oks ks cs → rawsOk ks (cs.map .raw) := by
  intro ks
  induction ks with
  | nil => intro cs h; cases cs <;> simp_all [oks, rawsOk]
  | cons k ks ih =>
    intro cs h
    cases cs with
    | nil => exact h.elim
    | cons c cs => exact ⟨h.1, ih h.2⟩
def argKind (P : Program) (t : TypeId) : Option AK :=
  match P.underlying t with
  | some .bool => some (.one .bool)
  | some (.int k) => some (.one (.int k))
  | some (.struct _) | some (.array _ _) => match kinds P 9 t with
    | some l => some (.agg l)
    | none => none
  | _ => none
def argKinds (P : Program) : List TypeId → Option (List AK)
  | [] => some []
  | t :: ts => match argKind P t, argKinds P ts with
    | some a, some as => some (a :: as)
    | _, _ => none
theorem open_args {H : Type} {enc : TypeId × Value → H} {P : Program} {W : World} {base : Nat} : ∀ {ts : List TypeId} {aks : List AK} {vs : List Value} {ds : List (DataW H)} {p : List MemPlace}, argKinds P ts = some aks →
    (∀ (j : Nat) t v, ts[j]? = some t → vs[j]? = some v → Value.okWide P W .any base t v) → DataW.TrodAll enc P W 0 (fun _ => true) true ts vs ds p →
    ∃ args, argsOk aks args ∧ (∀ ρ, absL ρ args = vs) ∧ bdL 0 args := by
  intro ts
  induction ts with
  | nil =>
    intro aks vs ds p h hv hA
    simp only [argKinds, Option.some.injEq] at h
    subst h
    obtain ⟨rfl, rfl, rfl⟩ := trodAll_nil hA
    exact ⟨[], trivial, fun _ => rfl, trivial⟩
  | cons t ts ih =>
    intro aks vs ds p h hv hA
    obtain ⟨v, vs', d, ds', p', q', rfl, rfl, rfl, h0, r0⟩ := trodAll_cons hA
    simp only [argKinds] at h
    split at h
    · rename_i ak as h1 h2
      simp only [Option.some.injEq] at h
      subst h
      obtain ⟨args, a1, a2, a3⟩ := ih h2 (fun j u x hj hx => hv (j + 1) u x (by simpa using hj) (by simpa using hx)) r0
      have hok := hv 0 t v rfl rfl
      obtain ⟨fuel, hf⟩ := h0
      unfold argKind at h1
      have agg : ∀ {fs : TypeDesc}, (match kinds P 9 t with | some l => some (AK.agg l) | none => none) = some ak → (∃ cs : Array Value, v = .agg cs) → ∃ args, argsOk (ak :: as) args ∧ (∀ ρ, absL ρ args = v :: vs') ∧ bdL 0 args := by
        intro _ hk hagg
        obtain ⟨cs, rfl⟩ := hagg
        split at hk
        · rename_i l hl
          simp only [Option.some.injEq] at hk
          subst hk
          have o := kinds_sound _ _ _ hl _ _ _ hf
          refine ⟨.agg (cs.toList.map .raw) :: args, ⟨rawsOk_of o, a1⟩, fun ρ => ?_, ⟨bdL_raw _ _, a3⟩⟩
          simp [absL, V.abs, absL_raw, a2 ρ]
        · cases hk
      split at h1
      · rename_i ht
        simp only [Option.some.injEq] at h1
        subst h1
        obtain ⟨b, hb, _⟩ := DataW.trod_bool ht hf
        obtain ⟨b', rfl⟩ := okWide_bool ht hok
        exact ⟨.raw (.bool b') :: args, ⟨⟨b', rfl⟩, a1⟩, fun ρ => by simp [absL, V.abs, a2 ρ], ⟨trivial, a3⟩⟩
      · rename_i k ht
        simp only [Option.some.injEq] at h1
        subst h1
        obtain ⟨n, hn, _, hw⟩ := DataW.trod_int ht hf
        obtain ⟨n', rfl⟩ := okWide_int ht hok
        obtain rfl : n' = n := by simpa [Value.cells] using hn
        exact ⟨.raw (.int k n') :: args, ⟨⟨n', rfl, hw⟩, a1⟩, fun ρ => by simp [absL, V.abs, a2 ρ], ⟨trivial, a3⟩⟩
      · rename_i fs ht
        obtain ⟨cs, rfl, _⟩ := okWide_struct ht hok
        exact agg (fs := .bool) h1 ⟨cs, rfl⟩
      · rename_i n e ht
        refine agg (fs := .bool) h1 ?_
        unfold Value.okWide at hok
        rw [ht] at hok
        obtain ⟨cs, rfl, _⟩ := hok
        exact ⟨cs, rfl⟩
      · cases h1
    · cases h

end Go.Proofs.YtpahclogghdnpaaDoorRL
