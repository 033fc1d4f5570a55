/- RL: loops by rounds that are told by what changes from one to the next. -/
import Derived.Test.YtjoopjhimgdgdaazDecWordsRLC
namespace Go.Proofs.YtjoopjhimgdgdaaRL
open Go
set_option linter.unusedVariables false
set_option linter.unusedSimpArgs false
section
variable {P : Program} {b : Nat} {c : Code} {K : Ex → St → Prop}
theorem LoopB.byG {α : Type} (S : α → St) (I : α → Prop) (μ : α → Nat)
    (round : ∀ x, I x → CodeB P b c (S x) fun e st' => match e with | .normal => ∃ y, Tells b st' (S y) ∧ I y ∧ μ y < μ x | .panic _ => False | e => ∃ st'', Tells b st' st'' ∧ K e st'') (st0 : St) (hi : ∃ x, Tells b st0 (S x) ∧ I x) : LoopB P b c st0 K := by
  have key : ∀ m x, μ x = m → I x → LoopB P b c (S x) K := by
    intro m
    induction m using Nat.strongRecOn with
    | _ m ih =>
      intro x hm hi
      refine ⟨fun r B Δ s0 ρ0 w0 ρ a w hn he hs hfo fb k cs hro => ?_⟩
      obtain ⟨e, a₁, w₁, ⟨x', st', ρ', Δ', h1, h2, h3, h4, h5⟩, harr⟩ := (round x hi).run r B Δ s0 ρ0 w0 ρ a w hn he hs hfo fb (.inLoop c :: k) cs hro trivial (fr_room _ _)
      have out : ∀ y : Ex, (∃ st'', Tells b st' st'' ∧ K y st'') → (∀ v, y ≠ .panic v) → y.rel ρ' st'.s.length e → liftB r B s0 ρ0 w0 K e a₁ w₁ := by
        rintro y ⟨st'', g1, g2⟩ hy hrel
        obtain ⟨ρ'', k1, k2, k3⟩ := g1 r B Δ' s0 ρ0 w0 ρ' a₁ w₁ hn h4 h3 h5
        refine ⟨y, st'', ρ'', Δ', ?_, g2, k2, k1, k3⟩
        cases y <;> cases e <;> simp only [Ex.rel] at hrel ⊢ <;> first | exact hrel.elim | exact hrel | exact absurd rfl (hy _)
      cases x' <;> cases e <;> simp only [Ex.rel] at h1 <;> try exact h1.elim
      · obtain ⟨y, g1, g2, g3⟩ := h2
        obtain ⟨ρ'', k1, k2, k3⟩ := g1 r B Δ' s0 ρ0 w0 ρ' a₁ w₁ hn h4 h3 h5
        obtain ⟨e₂, a₂, w₂, hq₂, harr₂⟩ := (ih _ (by omega) y rfl g2).run r B Δ' s0 ρ0 w0 ρ'' a₁ w₁ hn k1 k2 k3 fb k cs hro
        exact ⟨e₂, a₂, w₂, hq₂, .of_steps (StepsIn.trans harr (.one (fr_fenced _ _ _) stepR_inLoop)) harr₂⟩
      · exact ⟨.exit _, a₁, w₁, out (.exit _) h2 (fun v h => by cases h) h1, .pass (x := .inLoop c) rfl (fun _ _ => .inl (by simp)) harr⟩
      · exact ⟨.goto _, a₁, w₁, out (.goto _) h2 (fun v h => by cases h) h1, .pass (x := .inLoop c) rfl (fun _ _ => .inl (by simp)) harr⟩
      · exact ⟨.ret, a₁, w₁, out .ret h2 (fun v h => by cases h) trivial, .pass (x := .inLoop c) rfl (fun _ _ => .inl (by simp)) harr⟩
      · exact h2.elim
  obtain ⟨x, g1, g2⟩ := hi
  have h := key _ x rfl g2
  exact ⟨fun r B Δ s0 ρ0 w0 ρ a w hn he hs hfo fb k cs hro => let ⟨ρ', h1, h2, h3⟩ := g1 r B Δ s0 ρ0 w0 ρ a w hn he hs hfo; h.run r B Δ s0 ρ0 w0 ρ' a w hn h1 h2 h3 fb k cs hro⟩
/-- What a round may come to. -/
def RK {α : Type} (b : Nat) (S : α → St) (I : α → Prop) (μ : α → Nat) (x : α) (K : Ex → St → Prop) : Ex → St → Prop := fun e st => match e with
  | .normal => ∃ y, Tells b st (S y) ∧ I y ∧ μ y < μ x
  | .panic _ => False
  | e => K e st
/-- A loop by rounds that are computed. -/
theorem LoopB.byE {D : Eh} (hD : EOk P D) (hn : namesOk P = true) (hm : P.follows .mixedOrders = true) {N : Nat} {α : Type} (S : α → St) (I : α → Prop) (μ : α → Nat) (live : List Nat)
    (round : ∀ x, I x → evG P D N c (S x) fun e st => RK b S I μ x K e (gcSt b live st)) (st0 : St) (x0 : α) (ht : Tells b st0 (S x0)) (hi : I x0) : LoopB P b c st0 K := by
  refine LoopB.byG S I μ (fun x hx => ?_) st0 ⟨x0, ht, hi⟩
  refine (CodeB.of (evG_ok hD hn hm (round x hx))).mono fun e s he => ?_
  cases e
  · obtain ⟨y, h1, h2⟩ := he
    exact ⟨y, (gc_tells b live s).trans h1, h2⟩
  · exact ⟨_, gc_tells b live s, he⟩
  · exact ⟨_, gc_tells b live s, he⟩
  · exact ⟨_, gc_tells b live s, he⟩
  · exact he.elim
theorem RK.go {α : Type} {S : α → St} {I : α → Prop} {μ : α → Nat} {x y : α} {K : Ex → St → Prop} {st : St} (he : st = S y) (hi : I y) (hm : μ y < μ x) : RK b S I μ x K .normal st := ⟨y, by subst he; exact Tells.refl _ _, hi, hm⟩
end
end Go.Proofs.YtjoopjhimgdgdaaRL
