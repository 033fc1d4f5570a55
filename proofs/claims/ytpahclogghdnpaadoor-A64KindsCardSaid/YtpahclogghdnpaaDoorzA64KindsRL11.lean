/- RL, eleventh text: regions that draw, computed; calls computed whole. -/
import Derived.Test.YtpahclogghdnpaaDoorzA64KindsRL10
namespace Go.Proofs.YtpahclogghdnpaaDoorRL
open Go
set_option linter.unusedVariables false
set_option linter.unusedSimpArgs false
variable {Δ : List Deferred}
theorem getD_replicate_false (m j : Nat) : (Array.replicate m false).getD j false = false := by
  rcases Nat.lt_or_ge j m with h | h
  · simp [h]
  · simp [h]
section
variable {P : Program} {ρ : Rho} {st : St}
theorem Sim.same {a b : Act} {w w' : World} (h : Sim Δ ρ st a w) (ht : ∀ t : Nat, b.tmps[t]? = a.tmps[t]?) (hd : b.defers = Δ) (hs : b.tmps.size = a.tmps.size) (hr : Rep ρ st.s w') : Sim Δ ρ st b w' :=
  ⟨hd, by rw [hs]; exact h.size, fun t v hv => by rw [ht]; exact h.tmps t v hv, h.bd, hr, h.sb⟩
theorem ready_nil {ops : Array Oper} {listed : Array Bool} (hs : listed.size = ops.size) (h : ∀ j, j < ops.size → listed.getD j false = true) : Region.ready .any ops listed = [] := by
  cases hr : Region.ready .any ops listed with
  | nil => rfl
  | cons x xs =>
    have hm : x ∈ Region.ready .any ops listed := by rw [hr]; simp
    obtain ⟨h1, o, h2, _⟩ := mem_ready.1 hm
    have hlt : x < ops.size := (Array.getElem?_eq_some_iff.1 h2).1
    have := h x hlt
    simp [hs, hlt] at h1 this
    rw [h1] at this; cases this
end
end Go.Proofs.YtpahclogghdnpaaDoorRL
