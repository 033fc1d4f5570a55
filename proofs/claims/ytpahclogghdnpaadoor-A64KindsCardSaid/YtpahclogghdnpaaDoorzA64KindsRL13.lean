/- RL, thirteenth text: a law's function, computed; what is known of a function at no store at all holds at every store. -/
import Derived.Test.YtpahclogghdnpaaDoorzA64KindsRL12
namespace Go.Proofs.YtpahclogghdnpaaDoorRL
open Go
set_option linter.unusedVariables false
set_option linter.unusedSimpArgs false
/-- What only reads leaves the store. -/
theorem CallOk.quiet {P : Program} {f : FuncId} {args : List V} {s : Sto} {v : V} (h : CallOk P f args (roS s) fun r _ => r = .ret v) (hv : v.bd s.length) : CallOk P f args s fun r s' => r = .ret v ∧ s' = s := by
  refine ⟨h.plain, fun ρ w h1 h2 h3 => (h.run ρ w h1.toRo h2.toRo (by rw [toRo_length]; exact h3)).mono ?_⟩
  rintro e w' ⟨r, s', ρ', rfl, rfl, r1, r2, r3, r4⟩
  obtain ⟨q1, q2⟩ := quiet_ext h1 h2 r2
  refine ⟨.ret v, s, ρ, ?_, ⟨rfl, rfl⟩, q1, q2, h2, hv⟩
  simp only [Res.ending]
  rw [V.abs_congr (fun i hi => r2.same i (by rw [toRo_length]; exact hi)) v hv]
/-- What asks nothing of the store asks nothing of any. -/
theorem CallOk.anywhere {P : Program} {f : FuncId} {args : List V} {s : Sto} {v : V} (h : CallOk P f args [] fun r _ => r = .ret v) (ha : bdL 0 args) (hv : v.bd 0) : CallOk P f args s fun r s' => r = .ret v ∧ s' = s := by
  refine ⟨h.plain, fun ρ w h1 h2 h3 => (h.run ρ w ⟨fun i e he => (by simp at he), fun i j e f he => (by simp at he)⟩ (fun i e he => (by simp at he)) ha).mono ?_⟩
  rintro e w' ⟨r, s', ρ', rfl, rfl, r1, r2, r3, r4⟩
  have hblk : ∀ b, b < w.heap.size → w'.heap[b]? = w.heap[b]? := fun b hb => r2.block b hb fun i e hi => by simp at hi
  refine ⟨.ret v, s, ρ, ?_, ⟨rfl, rfl⟩, ⟨fun i e hi => ?_, h1.sep⟩, ⟨Nat.le_refl _, fun _ _ => rfl, fun i e h ho => .inl ⟨i, e, h, ho, rfl⟩, r2.os, r2.tape, r2.output, r2.size, fun b hb _ => hblk b hb⟩, h2, V.bd_mono (Nat.zero_le _) v hv⟩
  · simp only [Res.ending]
    rw [V.abs_congr (n := 0) (fun i hi => absurd hi (by omega)) v hv]
  · have hr := h1.ent i e hi
    cases hl : e.live with
    | true => exact RepE.congr (n := s.length) (fun _ _ => rfl) (List.getElem?_eq_some_iff.1 hi).1 (h2 i e hi) (hblk _ (hr.lt hl)) r2.size hr
    | false => cases e <;> simp_all [Ent.live, RepE]
/-- What a law's row wants, of arguments without places. -/
theorem CallOk.row {P : Program} {f : FuncId} {args : List V} {xs : Array Value} (h : CallOk P f args [] fun r _ => r = .ret (.raw (.bool true))) (ha : bdL 0 args) (hx : absL (fun _ => (0, 0)) args = xs.toList) (W : World) :
    Calls P f xs W fun e w' => e = .returned (.bool true) ∧ Go.RowKit.Below W.heap.size W w' := by
  have := h.below (ρ := fun _ => (0, 0)) (w := W) (r := .raw (.bool true)) ⟨fun i e he => (by simp at he), fun i j e f he => (by simp at he)⟩ (fun i e he => (by simp at he)) ha (fun i e he => (by simp at he)) trivial
  rw [hx] at this
  exact this
end Go.Proofs.YtpahclogghdnpaaDoorRL
