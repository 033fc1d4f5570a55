/- RL: contracts at a small store, used at any; what a call leaves, told with fewer blocks. -/
import Derived.Test.YtpahclogghdnpaaDoorzA64KindsRLK
namespace Go.Proofs.YtpahclogghdnpaaDoorRL
open Go
set_option linter.unusedVariables false
set_option linter.unusedSimpArgs false
mutual
theorem V.bd_ren {n m : Nat} {π : Nat → Nat} (h : ∀ i, i < n → π i < m) : ∀ (v : V), v.bd n → (v.ren π).bd m
  | .raw v, _ => trivial
  | .md k a l, _ => trivial
  | .ptr i o, hb => h i hb
  | .sl i o a c, hb => h i hb
  | .mp i, hb => h i hb
  | .yld i, hb => h i hb
  | .lst i k o e a, hb => ⟨h i hb.1, h k hb.2⟩
  | .el i z k f, hb => h i hb
  | .sle i z k a c, hb => h i hb
  | .lse i k z e a, hb => ⟨h i hb.1, h k hb.2⟩
  | .lend i k o e l z, hb => ⟨h i hb.1, h k hb.2⟩
  | .fn f a b, hb => ⟨bdL_ren h a hb.1, bdL_ren h b hb.2⟩
  | .ifc t v, hb => V.bd_ren h v hb
  | .agg cs, hb => bdL_ren h cs hb
  | .tup vs, hb => bdL_ren h vs hb
theorem bdL_ren {n m : Nat} {π : Nat → Nat} (h : ∀ i, i < n → π i < m) : ∀ (l : List V), bdL n l → bdL m (renL π l)
  | [], _ => trivial
  | v :: l, hb => ⟨V.bd_ren h v hb.1, bdL_ren h l hb.2⟩
end
theorem Ent.bd_ren {n m : Nat} {π : Nat → Nat} (h : ∀ i, i < n → π i < m) : ∀ (e : Ent), e.bd n → (e.ren π).bd m
  | .own cs t, hb => bdL_ren h cs hb
  | .ro cs, hb => bdL_ren h cs hb
  | .map es c, hb => by
    intro e he
    obtain ⟨f, hf, rfl⟩ := List.mem_map.1 he
    exact ⟨V.bd_ren h _ (hb f hf).1, V.bd_ren h _ (hb f hf).2⟩
  | .lst cs t k z, hb => ⟨bdL_ren h cs hb.1, h k hb.2⟩
  | .lp e q ps asg body pend, hb => by
    intro t v hv
    rw [find_renE] at hv
    obtain ⟨u, hu, rfl⟩ := Option.map_eq_some_iff.1 hv
    exact V.bd_ren h u (hb t u hu)
  | .arr md cols q t, hb => by
    cases md with
    | ro => trivial
    | own => trivial
    | grow k => exact h k hb
  | .glob _ _, _ => trivial
  | .no, _ => trivial
theorem RepE.ren_inv {ρ : Rho} {π : Nat → Nat} {w : World} {i : Nat} {e : Ent} (h : RepE (fun i => ρ (π i)) w i e) : RepE ρ w (π i) (e.ren π) := by
  cases e with
  | own cs t => simpa [RepE, Ent.ren, absL_ren] using h
  | ro cs =>
    refine ⟨h.1, fun j v hv => ?_⟩
    rw [renL_map, List.getElem?_map] at hv
    obtain ⟨u, hu, rfl⟩ := Option.map_eq_some_iff.1 hv
    rw [V.abs_ren]
    exact h.2 j u hu
  | map es c =>
    simp only [RepE, Ent.ren] at h ⊢
    rw [h]
    simp only [List.map_map]
    congr 3
    refine List.map_congr_left fun e he => ?_
    simp [absE, V.abs_ren]
  | lst cs t k z =>
    obtain ⟨rest, h1, h2, h3⟩ := h
    rw [← absL_ren] at h1
    exact ⟨rest, h1, h2, by simpa [renL_map] using h3⟩
  | lp e m ps asg body pend =>
    obtain ⟨r, h1, h2, h3, h4, h5, h6, h7, h8⟩ := h
    refine ⟨r, h1, h2, h3, h4, h5, h6, h7, fun t v hv => ?_⟩
    rw [find_renE] at hv
    obtain ⟨u, hu, rfl⟩ := Option.map_eq_some_iff.1 hv
    rw [V.abs_ren]
    exact h8 t u hu
  | arr m cols n t =>
    obtain ⟨cs, a1, a2, a3, h0⟩ := h
    refine ⟨cs, a1, a2, a3, ?_⟩
    cases m with
    | ro => exact h0
    | own => exact h0
    | grow k => exact h0
  | glob g cs => exact h
  | no => trivial
def Res.ren (π : Nat → Nat) : Res → Res
  | .ret v => .ret (v.ren π)
  | .pan v => .pan (v.ren π)
/-- Blocks of a small store, and behind them, in a great one. -/
def piX (n m : Nat) (π : Nat → Nat) (i : Nat) : Nat := match Nat.blt i n with
  | true => π i
  | false => i - n + m
/-- A call that only reads, at a part of a store. -/
theorem CallOk.frame {P : Program} {f : FuncId} {args : List V} {s0 s : Sto} {π : Nat → Nat} {K : Res → Sto → Prop}
    (hro : ∀ (i : Nat) e, s0[i]? = some e → e.isOwn = false)
    (hent : ∀ (i : Nat) e, s0[i]? = some e → e = .no ∨ ((roS s)[π i]? = some (e.ren π) ∧ e.bd s0.length))
    (hlt : ∀ i, i < s0.length → π i < s.length)
    (h : ∀ ρ : Rho, ∃ args0, absL ρ args = absL (fun i => ρ (π i)) args0 ∧ bdL s0.length args0 ∧ CallOk P f args0 s0 fun r s' => ∃ new, s' = s0 ++ new ∧ (new.all fun e => e.isOwn || !e.live) = true ∧ K (r.ren (piX s0.length s.length π)) (s ++ new.map (Ent.ren (piX s0.length s.length π)))) :
    CallOk P f args s K := by
  refine ⟨let ⟨_, _, _, h⟩ := h fun _ => (0, 0); h.plain, fun ρ w h1 h2 h3 => ?_⟩
  obtain ⟨args0, ha, hb, hc⟩ := h ρ
  rw [ha]
  have hs0 : sbd s0 := by
    intro i e he
    rcases hent i e he with rfl | ⟨_, h⟩
    · trivial
    · exact h
  have hr0 : Rep (fun i => ρ (π i)) s0 w := by
    refine ⟨fun i e he => ?_, fun i j e f he _ ho => ?_⟩
    · rcases hent i e he with rfl | ⟨h4, _⟩
      · trivial
      · exact RepE.ren (h1.toRo.ent _ _ h4)
    · rw [hro i e he] at ho; cases ho
  refine (hc.run _ w hr0 hs0 hb).mono ?_
  rintro e w' ⟨r, s', ρ', rfl, ⟨new, rfl, hall, hk⟩, r1, r2, r3, r4⟩
  have hblk : ∀ b, b < w.heap.size → w'.heap[b]? = w.heap[b]? := fun b hb => r2.block b hb fun i e he ho => by rw [hro i e he] at ho; cases ho
  let ρ2 : Rho := fun i => if i < s.length then ρ i else ρ' (i - s.length + s0.length)
  have pe1 : ∀ i, i < s0.length → piX s0.length s.length π i = π i := fun i hi => by
    unfold piX
    have : Nat.blt i s0.length = true := by rw [Nat.blt_eq]; exact hi
    rw [this]
  have pe2 : ∀ i, s0.length ≤ i → piX s0.length s.length π i = i - s0.length + s.length := fun i hi => by
    unfold piX
    have : Nat.blt i s0.length = false := by
      cases hb : Nat.blt i s0.length with
      | true => rw [Nat.blt_eq] at hb; omega
      | false => rfl
    rw [this]
  have hρ : ∀ i, ρ2 (piX s0.length s.length π i) = ρ' i := by
    intro i
    by_cases hi : i < s0.length
    · rw [pe1 i hi]
      have := hlt i hi
      simp only [ρ2, if_pos this]
      exact (r2.same i hi).symm
    · rw [pe2 i (by omega)]
      simp only [ρ2]
      rw [if_neg (by omega)]
      congr 1
      omega
  have hρe : (fun i => ρ2 (piX s0.length s.length π i)) = ρ' := funext hρ
  have hold : ∀ i, i < s.length → ρ2 i = ρ i := fun i hi => by simp only [ρ2, if_pos hi]
  have plt : ∀ i, i < (s0 ++ new).length → piX s0.length s.length π i < (s ++ new.map (Ent.ren (piX s0.length s.length π))).length := by
    intro i hi
    simp only [List.length_append, List.length_map] at hi ⊢
    by_cases h : i < s0.length
    · rw [pe1 i h]; have := hlt i h; omega
    · rw [pe2 i (by omega)]; omega
  have split : ∀ (i : Nat) e, (s ++ new.map (Ent.ren (piX s0.length s.length π)))[i]? = some e → (i < s.length ∧ s[i]? = some e) ∨ ∃ q e0, i = q + s.length ∧ (s0 ++ new)[q + s0.length]? = some e0 ∧ e = e0.ren (piX s0.length s.length π) := by
    intro i e he
    by_cases hi : i < s.length
    · rw [List.getElem?_append_left hi] at he
      exact .inl ⟨hi, he⟩
    · rw [List.getElem?_append_right (by omega), List.getElem?_map] at he
      obtain ⟨e0, he0, rfl⟩ := Option.map_eq_some_iff.1 he
      refine .inr ⟨i - s.length, e0, by omega, ?_, rfl⟩
      rw [List.getElem?_append_right (by omega)]
      rwa [show i - s.length + s0.length - s0.length = i - s.length by omega]
  have hnew : ∀ q e0, (s0 ++ new)[q + s0.length]? = some e0 → e0.isOwn = true → w.heap.size ≤ (ρ2 (q + s.length)).1 := by
    intro q e0 he ho
    have h4 : ρ2 (q + s.length) = ρ' (q + s0.length) := by
      simp only [ρ2]
      rw [if_neg (by omega), show q + s.length - s.length + s0.length = q + s0.length by omega]
    rw [h4]
    rcases r2.own _ e0 he ho with ⟨j, e, hj, hjo, _⟩ | h5
    · rw [hro j e hj] at hjo; cases hjo
    · exact h5
  have hnewρ : ∀ q, ρ2 (q + s.length) = ρ' (q + s0.length) := fun q => by
    simp only [ρ2]
    rw [if_neg (by omega), show q + s.length - s.length + s0.length = q + s0.length by omega]
  refine ⟨r.ren (piX s0.length s.length π), _, ρ2, ?_, hk, ⟨?_, ?_⟩, ⟨?_, hold, ?_, r2.os, r2.tape, r2.output, r2.size, fun b hb _ => hblk b hb⟩, ?_, ?_⟩
  · cases r <;> simp only [Res.ending, Res.ren, V.abs_ren, hρe]
  · intro i e he
    rcases split i e he with ⟨hi, h4⟩ | ⟨q, e0, rfl, h4, rfl⟩
    · have hr := h1.ent i e h4
      cases hl : e.live with
      | true => exact RepE.congr (n := s.length) hold hi (h2 i e h4) (hblk _ (hr.lt hl)) r2.size hr
      | false => cases e <;> simp_all [Ent.live, RepE]
    · have h5 : RepE (fun i => ρ2 (piX s0.length s.length π i)) w' (q + s0.length) e0 := by rw [hρe]; exact r1.ent _ _ h4
      have h6 := h5.ren_inv
      rwa [pe2 _ (by omega), show q + s0.length - s0.length + s.length = q + s.length by omega] at h6
  · intro i j e f he hf ho hl hij
    rcases split i e he with ⟨hi, h4⟩ | ⟨q, e0, rfl, h4, rfl⟩
    · rcases split j f hf with ⟨hj, k4⟩ | ⟨p, f0, rfl, k4, rfl⟩
      · rw [hold i hi, hold j hj]
        exact h1.sep i j e f h4 k4 ho hl hij
      · have h5 := (h1.ent i e h4).lt (Ent.own_live ho)
        rw [hold i hi]
        rw [Ent.ren_live] at hl
        have hfo : f0.isOwn = true := by
          have hm : f0 ∈ new := by
            rw [List.getElem?_append_right (by omega)] at k4
            exact List.mem_of_getElem? k4
          have := List.all_eq_true.1 hall f0 hm
          simpa [hl] using this
        have := hnew p f0 k4 hfo
        omega
    · rw [Ent.ren_own] at ho
      have h5 := hnew q e0 h4 ho
      rcases split j f hf with ⟨hj, k4⟩ | ⟨p, f0, rfl, k4, rfl⟩
      · have h6 := (h1.ent j f k4).lt hl
        rw [hold j hj]
        omega
      · rw [Ent.ren_live] at hl
        rw [hnewρ, hnewρ]
        exact r1.sep _ _ _ _ h4 k4 ho hl (by omega)
  · simp only [List.length_append]; omega
  · intro i e he ho
    rcases split i e he with ⟨hi, h4⟩ | ⟨q, e0, rfl, h4, rfl⟩
    · exact .inl ⟨i, e, h4, ho, by rw [hold i hi]⟩
    · rw [Ent.ren_own] at ho
      exact .inr (hnew q e0 h4 ho)
  · intro i e he
    rcases split i e he with ⟨hi, h4⟩ | ⟨q, e0, rfl, h4, rfl⟩
    · exact Ent.bd_mono' (by simp only [List.length_append]; omega) e (h2 i e h4)
    · exact Ent.bd_ren plt e0 (r3 _ _ h4)
  · cases r <;> exact V.bd_ren plt _ r4
theorem piX_at {n m q : Nat} {π : Nat → Nat} : piX n m π (n + q) = m + q := by
  unfold piX
  have : Nat.blt (n + q) n = false := by
    cases h : Nat.blt (n + q) n with
    | true => rw [Nat.blt_eq] at h; omega
    | false => rfl
  rw [this]
  show n + q - n + m = m + q
  omega
theorem piX_11 {m : Nat} {π : Nat → Nat} : piX 1 m π 1 = m := piX_at (n := 1) (q := 0)
theorem Ent.toRo_live {e : Ent} (h : e.toRo.live = true) : e.live = true := by cases e <;> first | rfl | (simp [Ent.toRo, Ent.live] at h)
end Go.Proofs.YtpahclogghdnpaaDoorRL
