/- Parts of the proof, one behind the other. -/
import Derived.Test.YtalgegmcllcnmaazLabJumpsRLK
section
/- RL: contracts at a small store, used at any; what a call leaves, told with fewer blocks. -/
namespace Go.Proofs.YtalgegmcllcnmaaRL
open Go
set_option linter.unusedVariables false
set_option linter.unusedSimpArgs false
mutual
theorem V.bd_ren {n m : Nat} {π : Nat → Nat} (h : ∀ i, i < n → π i < m) : ∀ (v : V), v.bd n → (v.ren π).bd m
  | .raw v, _ => trivial
  | .md k a l, _ => trivial
  | .ptr i o, hb => h i hb
  | .sl i o a c, hb => h i hb
  | .mp i, hb => h i hb
  | .yld i, hb => h i hb
  | .lst i k o e a, hb => ⟨h i hb.1, h k hb.2⟩
  | .el i z k f, hb => h i hb
  | .sle i z k a c, hb => h i hb
  | .lse i k z e a, hb => ⟨h i hb.1, h k hb.2⟩
  | .lend i k o e l z, hb => ⟨h i hb.1, h k hb.2⟩
  | .fn f a b, hb => ⟨bdL_ren h a hb.1, bdL_ren h b hb.2⟩
  | .ifc t v, hb => V.bd_ren h v hb
  | .agg cs, hb => bdL_ren h cs hb
  | .tup vs, hb => bdL_ren h vs hb
theorem bdL_ren {n m : Nat} {π : Nat → Nat} (h : ∀ i, i < n → π i < m) : ∀ (l : List V), bdL n l → bdL m (renL π l)
  | [], _ => trivial
  | v :: l, hb => ⟨V.bd_ren h v hb.1, bdL_ren h l hb.2⟩
end
theorem Ent.bd_ren {n m : Nat} {π : Nat → Nat} (h : ∀ i, i < n → π i < m) : ∀ (e : Ent), e.bd n → (e.ren π).bd m
  | .own cs t, hb => bdL_ren h cs hb
  | .ro cs, hb => bdL_ren h cs hb
  | .map es c, hb => by
    intro e he
    obtain ⟨f, hf, rfl⟩ := List.mem_map.1 he
    exact ⟨V.bd_ren h _ (hb f hf).1, V.bd_ren h _ (hb f hf).2⟩
  | .lst cs t k z, hb => ⟨bdL_ren h cs hb.1, h k hb.2⟩
  | .lp e q ps asg body pend, hb => by
    intro t v hv
    rw [find_renE] at hv
    obtain ⟨u, hu, rfl⟩ := Option.map_eq_some_iff.1 hv
    exact V.bd_ren h u (hb t u hu)
  | .arr md cols q t, hb => by
    cases md with
    | ro => trivial
    | own => trivial
    | grow k => exact h k hb
  | .no, _ => trivial
theorem RepE.ren_inv {ρ : Rho} {π : Nat → Nat} {w : World} {i : Nat} {e : Ent} (h : RepE (fun i => ρ (π i)) w i e) : RepE ρ w (π i) (e.ren π) := by
  cases e with
  | own cs t => simpa [RepE, Ent.ren, absL_ren] using h
  | ro cs =>
    refine ⟨h.1, fun j v hv => ?_⟩
    rw [renL_map, List.getElem?_map] at hv
    obtain ⟨u, hu, rfl⟩ := Option.map_eq_some_iff.1 hv
    rw [V.abs_ren]
    exact h.2 j u hu
  | map es c =>
    simp only [RepE, Ent.ren] at h ⊢
    rw [h]
    simp only [List.map_map]
    congr 3
    refine List.map_congr_left fun e he => ?_
    simp [absE, V.abs_ren]
  | lst cs t k z =>
    obtain ⟨rest, h1, h2, h3⟩ := h
    rw [← absL_ren] at h1
    exact ⟨rest, h1, h2, by simpa [renL_map] using h3⟩
  | lp e m ps asg body pend =>
    obtain ⟨r, h1, h2, h3, h4, h5, h6, h7, h8⟩ := h
    refine ⟨r, h1, h2, h3, h4, h5, h6, h7, fun t v hv => ?_⟩
    rw [find_renE] at hv
    obtain ⟨u, hu, rfl⟩ := Option.map_eq_some_iff.1 hv
    rw [V.abs_ren]
    exact h8 t u hu
  | arr m cols n t =>
    obtain ⟨cs, a1, a2, a3, h0⟩ := h
    refine ⟨cs, a1, a2, a3, ?_⟩
    cases m with
    | ro => exact h0
    | own => exact h0
    | grow k => exact h0
  | no => trivial
def Res.ren (π : Nat → Nat) : Res → Res
  | .ret v => .ret (v.ren π)
  | .pan v => .pan (v.ren π)
/-- Blocks of a small store, and behind them, in a great one. -/
def piX (n m : Nat) (π : Nat → Nat) (i : Nat) : Nat := match Nat.blt i n with
  | true => π i
  | false => i - n + m
/-- A call that only reads, at a part of a store. -/
theorem CallOk.frame {P : Program} {f : FuncId} {args : List V} {s0 s : Sto} {π : Nat → Nat} {K : Res → Sto → Prop}
    (hro : ∀ (i : Nat) e, s0[i]? = some e → e.isOwn = false)
    (hent : ∀ (i : Nat) e, s0[i]? = some e → e = .no ∨ ((roS s)[π i]? = some (e.ren π) ∧ e.bd s0.length))
    (hlt : ∀ i, i < s0.length → π i < s.length)
    (h : ∀ ρ : Rho, ∃ args0, absL ρ args = absL (fun i => ρ (π i)) args0 ∧ bdL s0.length args0 ∧ CallOk P f args0 s0 fun r s' => ∃ new, s' = s0 ++ new ∧ (new.all fun e => e.isOwn || !e.live) = true ∧ K (r.ren (piX s0.length s.length π)) (s ++ new.map (Ent.ren (piX s0.length s.length π)))) :
    CallOk P f args s K := by
  refine ⟨let ⟨_, _, _, h⟩ := h fun _ => (0, 0); h.plain, fun ρ w h1 h2 h3 => ?_⟩
  obtain ⟨args0, ha, hb, hc⟩ := h ρ
  rw [ha]
  have hs0 : sbd s0 := by
    intro i e he
    rcases hent i e he with rfl | ⟨_, h⟩
    · trivial
    · exact h
  have hr0 : Rep (fun i => ρ (π i)) s0 w := by
    refine ⟨fun i e he => ?_, fun i j e f he _ ho => ?_⟩
    · rcases hent i e he with rfl | ⟨h4, _⟩
      · trivial
      · exact RepE.ren (h1.toRo.ent _ _ h4)
    · rw [hro i e he] at ho; cases ho
  refine (hc.run _ w hr0 hs0 hb).mono ?_
  rintro e w' ⟨r, s', ρ', rfl, ⟨new, rfl, hall, hk⟩, r1, r2, r3, r4⟩
  have hblk : ∀ b, b < w.heap.size → w'.heap[b]? = w.heap[b]? := fun b hb => r2.block b hb fun i e he ho => by rw [hro i e he] at ho; cases ho
  let ρ2 : Rho := fun i => if i < s.length then ρ i else ρ' (i - s.length + s0.length)
  have pe1 : ∀ i, i < s0.length → piX s0.length s.length π i = π i := fun i hi => by
    unfold piX
    have : Nat.blt i s0.length = true := by rw [Nat.blt_eq]; exact hi
    rw [this]
  have pe2 : ∀ i, s0.length ≤ i → piX s0.length s.length π i = i - s0.length + s.length := fun i hi => by
    unfold piX
    have : Nat.blt i s0.length = false := by
      cases hb : Nat.blt i s0.length with
      | true => rw [Nat.blt_eq] at hb; omega
      | false => rfl
    rw [this]
  have hρ : ∀ i, ρ2 (piX s0.length s.length π i) = ρ' i := by
    intro i
    by_cases hi : i < s0.length
    · rw [pe1 i hi]
      have := hlt i hi
      simp only [ρ2, if_pos this]
      exact (r2.same i hi).symm
    · rw [pe2 i (by omega)]
      simp only [ρ2]
      rw [if_neg (by omega)]
      congr 1
      omega
  have hρe : (fun i => ρ2 (piX s0.length s.length π i)) = ρ' := funext hρ
  have hold : ∀ i, i < s.length → ρ2 i = ρ i := fun i hi => by simp only [ρ2, if_pos hi]
  have plt : ∀ i, i < (s0 ++ new).length → piX s0.length s.length π i < (s ++ new.map (Ent.ren (piX s0.length s.length π))).length := by
    intro i hi
    simp only [List.length_append, List.length_map] at hi ⊢
    by_cases h : i < s0.length
    · rw [pe1 i h]; have := hlt i h; omega
    · rw [pe2 i (by omega)]; omega
  have split : ∀ (i : Nat) e, (s ++ new.map (Ent.ren (piX s0.length s.length π)))[i]? = some e → (i < s.length ∧ s[i]? = some e) ∨ ∃ q e0, i = q + s.length ∧ (s0 ++ new)[q + s0.length]? = some e0 ∧ e = e0.ren (piX s0.length s.length π) := by
    intro i e he
    by_cases hi : i < s.length
    · rw [List.getElem?_append_left hi] at he
      exact .inl ⟨hi, he⟩
    · rw [List.getElem?_append_right (by omega), List.getElem?_map] at he
      obtain ⟨e0, he0, rfl⟩ := Option.map_eq_some_iff.1 he
      refine .inr ⟨i - s.length, e0, by omega, ?_, rfl⟩
      rw [List.getElem?_append_right (by omega)]
      rwa [show i - s.length + s0.length - s0.length = i - s.length by omega]
  have hnew : ∀ q e0, (s0 ++ new)[q + s0.length]? = some e0 → e0.isOwn = true → w.heap.size ≤ (ρ2 (q + s.length)).1 := by
    intro q e0 he ho
    have h4 : ρ2 (q + s.length) = ρ' (q + s0.length) := by
      simp only [ρ2]
      rw [if_neg (by omega), show q + s.length - s.length + s0.length = q + s0.length by omega]
    rw [h4]
    rcases r2.own _ e0 he ho with ⟨j, e, hj, hjo, _⟩ | h5
    · rw [hro j e hj] at hjo; cases hjo
    · exact h5
  have hnewρ : ∀ q, ρ2 (q + s.length) = ρ' (q + s0.length) := fun q => by
    simp only [ρ2]
    rw [if_neg (by omega), show q + s.length - s.length + s0.length = q + s0.length by omega]
  refine ⟨r.ren (piX s0.length s.length π), _, ρ2, ?_, hk, ⟨?_, ?_⟩, ⟨?_, hold, ?_, r2.os, r2.tape, r2.output, r2.size, fun b hb _ => hblk b hb⟩, ?_, ?_⟩
  · cases r <;> simp only [Res.ending, Res.ren, V.abs_ren, hρe]
  · intro i e he
    rcases split i e he with ⟨hi, h4⟩ | ⟨q, e0, rfl, h4, rfl⟩
    · have hr := h1.ent i e h4
      cases hl : e.live with
      | true => exact RepE.congr (n := s.length) hold hi (h2 i e h4) (hblk _ (hr.lt hl)) r2.size hr
      | false => cases e <;> simp_all [Ent.live, RepE]
    · have h5 : RepE (fun i => ρ2 (piX s0.length s.length π i)) w' (q + s0.length) e0 := by rw [hρe]; exact r1.ent _ _ h4
      have h6 := h5.ren_inv
      rwa [pe2 _ (by omega), show q + s0.length - s0.length + s.length = q + s.length by omega] at h6
  · intro i j e f he hf ho hl hij
    rcases split i e he with ⟨hi, h4⟩ | ⟨q, e0, rfl, h4, rfl⟩
    · rcases split j f hf with ⟨hj, k4⟩ | ⟨p, f0, rfl, k4, rfl⟩
      · rw [hold i hi, hold j hj]
        exact h1.sep i j e f h4 k4 ho hl hij
      · have h5 := (h1.ent i e h4).lt (Ent.own_live ho)
        rw [hold i hi]
        rw [Ent.ren_live] at hl
        have hfo : f0.isOwn = true := by
          have hm : f0 ∈ new := by
            rw [List.getElem?_append_right (by omega)] at k4
            exact List.mem_of_getElem? k4
          have := List.all_eq_true.1 hall f0 hm
          simpa [hl] using this
        have := hnew p f0 k4 hfo
        omega
    · rw [Ent.ren_own] at ho
      have h5 := hnew q e0 h4 ho
      rcases split j f hf with ⟨hj, k4⟩ | ⟨p, f0, rfl, k4, rfl⟩
      · have h6 := (h1.ent j f k4).lt hl
        rw [hold j hj]
        omega
      · rw [Ent.ren_live] at hl
        rw [hnewρ, hnewρ]
        exact r1.sep _ _ _ _ h4 k4 ho hl (by omega)
  · simp only [List.length_append]; omega
  · intro i e he ho
    rcases split i e he with ⟨hi, h4⟩ | ⟨q, e0, rfl, h4, rfl⟩
    · exact .inl ⟨i, e, h4, ho, by rw [hold i hi]⟩
    · rw [Ent.ren_own] at ho
      exact .inr (hnew q e0 h4 ho)
  · intro i e he
    rcases split i e he with ⟨hi, h4⟩ | ⟨q, e0, rfl, h4, rfl⟩
    · exact Ent.bd_mono' (by simp only [List.length_append]; omega) e (h2 i e h4)
    · exact Ent.bd_ren plt e0 (r3 _ _ h4)
  · cases r <;> exact V.bd_ren plt _ r4
/-- Columns that tell the same of the first n. -/
def Col.eqv (n : Nat) : Col → Col → Prop
  | .int k f, .int k' g => k = k' ∧ ∀ j, j < n → f j = g j
  | .bool f, .bool g => ∀ j, j < n → f j = g j
  | .str f, .str g => ∀ j, j < n → f j = g j
  | _, .any => True
  | _, _ => False
def colsEqv (n : Nat) : List Col → List Col → Prop
  | [], [] => True
  | a :: as, b :: bs => Col.eqv n a b ∧ colsEqv n as bs
  | _, _ => False
theorem Col.eqv_at {n : Nat} {a b : Col} (h : Col.eqv n a b) {j : Nat} (hj : j < n) {u : Value} (hu : b.at j = some u) : a.at j = some u := by
  cases a <;> cases b <;> simp only [Col.eqv] at h <;> simp only [Col.at] at hu ⊢ <;> first | exact h.elim | (cases hu; done) | skip
  · obtain ⟨rfl, h⟩ := h; rw [h j hj]; exact hu
  · rw [h j hj]; exact hu
  · rw [h j hj]; exact hu
theorem colsEqv_len {n : Nat} : ∀ {as bs : List Col}, colsEqv n as bs → as.length = bs.length
  | [], [], _ => rfl
  | a :: as, b :: bs, h => by simp [colsEqv_len h.2]
  | [], _ :: _, h => h.elim
  | _ :: _, [], h => h.elim
theorem colsEqv_at {n : Nat} : ∀ {as bs : List Col}, colsEqv n as bs → ∀ {c : Nat} {b : Col}, bs[c]? = some b → ∃ a, as[c]? = some a ∧ Col.eqv n a b
  | [], [], _, c, b, h => by simp at h
  | a :: as, b' :: bs, h, 0, b, hb => by simp at hb; subst hb; exact ⟨a, rfl, h.1⟩
  | a :: as, b' :: bs, h, c + 1, b, hb => by simpa using colsEqv_at h.2 (by simpa using hb)
  | [], _ :: _, h, _, _, _ => h.elim
  | _ :: _, [], h, _, _, _ => h.elim
def Ent.eqv (e f : Ent) : Prop := e = f ∨ match e, f with
  | .arr m cols n t, .arr m' cols' n' t' => m = m' ∧ (n = n' ∨ (∃ k, m = .grow k) ∧ n' ≤ n) ∧ t = t' ∧ colsEqv n' cols cols'
  | _, _ => False
def stoEqv : Sto → Sto → Prop
  | [], [] => True
  | e :: s, f :: s' => Ent.eqv e f ∧ stoEqv s s'
  | _, _ => False
theorem stoEqv_len : ∀ {s s' : Sto}, stoEqv s s' → s.length = s'.length
  | [], [], _ => rfl
  | _ :: _, _ :: _, h => by simp [stoEqv_len h.2]
  | [], _ :: _, h => h.elim
  | _ :: _, [], h => h.elim
theorem stoEqv_at : ∀ {s s' : Sto}, stoEqv s s' → ∀ {i : Nat} {f : Ent}, s'[i]? = some f → ∃ e, s[i]? = some e ∧ Ent.eqv e f
  | [], [], _, i, f, h => by simp at h
  | e :: s, f' :: s', h, 0, f, hf => by simp at hf; subst hf; exact ⟨e, rfl, h.1⟩
  | e :: s, f' :: s', h, i + 1, f, hf => by simpa using stoEqv_at h.2 (by simpa using hf)
  | [], _ :: _, h, _, _, _ => h.elim
  | _ :: _, [], h, _, _, _ => h.elim
theorem Ent.eqv_own {e f : Ent} (h : Ent.eqv e f) : f.isOwn = e.isOwn ∧ f.live = e.live := by
  rcases h with rfl | h
  · exact ⟨rfl, rfl⟩
  · cases e <;> cases f <;> first | exact h.elim | skip
    obtain ⟨rfl, _, rfl, h⟩ := h
    exact ⟨rfl, rfl⟩
theorem Ent.eqv_bd {e f : Ent} (h : Ent.eqv e f) {n : Nat} (hb : e.bd n) : f.bd n := by
  rcases h with rfl | h
  · exact hb
  · cases e <;> cases f <;> first | exact h.elim | skip
    obtain ⟨rfl, _, rfl, h⟩ := h
    exact hb
theorem RepE.eqv {ρ : Rho} {w : World} {i : Nat} {e f : Ent} (h : Ent.eqv e f) (hr : RepE ρ w i e) : RepE ρ w i f := by
  rcases h with rfl | h
  · exact hr
  · cases e <;> cases f <;> first | exact h.elim | skip
    obtain ⟨rfl, hn, rfl, h⟩ := h
    obtain ⟨cs, h1, h2, h3, h4⟩ := hr
    have hl := colsEqv_len h
    rcases hn with rfl | ⟨⟨k, rfl⟩, hn⟩
    · refine ⟨cs, by rw [← hl]; exact h1, h2, fun j c col u hj hc hu => ?_, by rw [← hl]; exact h4⟩
      obtain ⟨a, ha, hab⟩ := colsEqv_at h hc
      rw [← hl]
      exact h3 j c a u hj ha (Col.eqv_at hab hj hu)
    · obtain ⟨rest, g1, g2, g3⟩ := h4
      rename_i cols n0 t0 cols' n'
      have hle : n' * cols.length ≤ cs.length := by rw [h1]; exact Nat.mul_le_mul_right _ hn
      have ht : (cs.take (n' * cols.length)).length = n' * cols.length := by rw [List.length_take]; omega
      refine ⟨cs.take (n' * cols.length), by rw [← hl]; exact ht, fun v hv => h2 v (List.mem_of_mem_take hv), fun j c col u hj hc hu => ?_, cs.drop (n' * cols.length) ++ rest, by rw [← List.append_assoc, List.take_append_drop]; exact g1, g2, ?_⟩
      · obtain ⟨a, ha, hab⟩ := colsEqv_at h hc
        have hcl := (List.getElem?_eq_some_iff.1 ha).1
        have := h3 j c a u (by omega) ha (Col.eqv_at hab hj hu)
        rw [← hl, List.getElem?_take, if_pos]
        · exact this
        · have : (j + 1) * cols.length ≤ n' * cols.length := Nat.mul_le_mul_right _ hj
          rw [Nat.add_mul, Nat.one_mul] at this
          omega
      · rw [← hl, ← g3, ht, List.length_append, List.length_drop]
        omega
theorem stoEqv_own : ∀ {s s' : Sto}, stoEqv s s' → s'.map Ent.isOwn = s.map Ent.isOwn
  | [], [], _ => rfl
  | _ :: _, _ :: _, h => by simp [stoEqv_own h.2, (Ent.eqv_own h.1).1]
  | [], _ :: _, h => h.elim
  | _ :: _, [], h => h.elim
/-- What a call leaves, told by other columns. -/
theorem CallOk.eqv {P : Program} {f : FuncId} {args : List V} {s : Sto} {K : Res → Sto → Prop} (h : CallOk P f args s fun r s' => ∃ s'', stoEqv s' s'' ∧ K r s'') : CallOk P f args s K := by
  refine ⟨h.plain, fun ρ w h1 h2 h3 => (h.run ρ w h1 h2 h3).mono ?_⟩
  rintro e w' ⟨r, s', ρ', e1, ⟨s'', q, hk⟩, r1, r2, r3, r4⟩
  have hl := stoEqv_len q
  refine ⟨r, s'', ρ', e1, hk, ⟨fun i f hf => ?_, fun i j f g hf hg ho hlv hij => ?_⟩, r2.conv rfl (stoEqv_own q), fun i f hf => ?_, by rw [← hl]; exact r4⟩
  · obtain ⟨e, he, hef⟩ := stoEqv_at q hf
    exact (r1.ent i e he).eqv hef
  · obtain ⟨e, he, hef⟩ := stoEqv_at q hf
    obtain ⟨e2, he2, hef2⟩ := stoEqv_at q hg
    exact r1.sep i j e e2 he he2 (by rw [← (Ent.eqv_own hef).1]; exact ho) (by rw [← (Ent.eqv_own hef2).2]; exact hlv) hij
  · obtain ⟨e, he, hef⟩ := stoEqv_at q hf
    rw [← hl]
    exact Ent.eqv_bd hef (r3 i e he)
/-- A call that reads one array. -/
theorem CallOk.frame1 {P : Program} {f : FuncId} {args0 : List V} {s : Sto} {i : Nat} {m : AM} {cols : List Col} {N : Nat} {t : TypeId} {K : Res → Sto → Prop} (hi : s[i]? = some (.arr m cols N t)) (hb : bdL 1 args0)
    (h : CallOk P f args0 [.arr .ro cols N t] fun r s' => ∃ new, s' = [.arr .ro cols N t] ++ new ∧ (new.all fun e => e.isOwn || !e.live) = true ∧ K (r.ren (piX 1 s.length fun _ => i)) (s ++ new.map (Ent.ren (piX 1 s.length fun _ => i)))) : CallOk P f (renL (fun _ => i) args0) s K := by
  refine CallOk.frame (s0 := [.arr .ro cols N t]) (π := fun _ => i) (fun j e he => ?_) (fun j e he => .inr ?_) (fun j hj => (List.getElem?_eq_some_iff.1 hi).1) fun ρ => ⟨args0, absL_ren ρ _ args0, hb, h⟩
  · cases j with
    | zero => simp at he; subst he; rfl
    | succ j => simp at he
  · cases j with
    | zero =>
      simp at he; subst he
      refine ⟨?_, trivial⟩
      simp only [roS, List.getElem?_map, hi]; rfl
    | succ j => simp at he
/-- A growing row handed on is a row of some room. -/
theorem CallOk.lse1 {P : Program} {f : FuncId} {a b : List V} {i k z e n : Nat} {s : Sto} {K : Res → Sto → Prop} (h : ∀ cap, CallOk P f (a ++ .sle i z e n cap :: b) s K) : CallOk P f (a ++ .lse i k z e n :: b) s K := by
  refine ⟨(h 0).plain, fun ρ w h1 h2 h3 => ?_⟩
  have e1 : absL ρ (a ++ .lse i k z e n :: b) = absL ρ (a ++ .sle i z e n ((ρ k).1 - e) :: b) := by
    rw [absL_append, absL_append]; rfl
  rw [e1]
  refine (h _).run ρ w h1 h2 ?_
  rw [bdL_append] at h3 ⊢
  exact ⟨h3.1, h3.2.1.1, h3.2.2⟩
theorem piX_at {n m q : Nat} {π : Nat → Nat} : piX n m π (n + q) = m + q := by
  unfold piX
  have : Nat.blt (n + q) n = false := by
    cases h : Nat.blt (n + q) n with
    | true => rw [Nat.blt_eq] at h; omega
    | false => rfl
  rw [this]
  show n + q - n + m = m + q
  omega
theorem piX_11 {m : Nat} {π : Nat → Nat} : piX 1 m π 1 = m := piX_at (n := 1) (q := 0)
theorem piX_12 {m : Nat} {π : Nat → Nat} : piX 1 m π 2 = m + 1 := piX_at (n := 1) (q := 1)
theorem Ent.toRo_live {e : Ent} (h : e.toRo.live = true) : e.live = true := by cases e <;> first | rfl | (simp [Ent.toRo, Ent.live] at h)
end Go.Proofs.YtalgegmcllcnmaaRL
end
section
/- RL: calls that only read: known at other places, of other blocks, they are known where these lie within the store's. -/
namespace Go.Proofs.YtalgegmcllcnmaaRL
open Go
set_option linter.unusedVariables false
set_option linter.unusedSimpArgs false
/-- A call that reads what memory holds, told by another store that has no block of its own, and gives back a flat value. -/
theorem CallOk.reads {P : Program} {f : FuncId} {args : List V} {s : Sto} {v : V} (hv : v.bd 0) (hp : ∀ (xs : Array Value) (w : World), (callFunc f xs).run P w = .ok (.enter f xs) w)
    (h : ∀ ρ w, Rep ρ s w → sbd s → ∃ ρ0 args0 s0, absL ρ args = absL ρ0 args0 ∧ Rep ρ0 s0 w ∧ sbd s0 ∧ bdL s0.length args0 ∧ (∀ (i : Nat) e, s0[i]? = some e → e.isOwn = false) ∧ CallOk P f args0 s0 fun r _ => r = .ret v) : CallOk P f args s fun r s' => r = .ret v ∧ s' = s := by
  refine ⟨hp, fun ρ w h1 h2 h3 => ?_⟩
  obtain ⟨ρ0, args0, s0, e1, e2, e3, e4, e5, e6⟩ := h ρ w h1 h2
  rw [e1]
  refine (e6.run ρ0 w e2 e3 e4).mono ?_
  rintro e w' ⟨r, s', ρ', rfl, rfl, r1, r2, r3, r4⟩
  have hblk : ∀ b, b < w.heap.size → w'.heap[b]? = w.heap[b]? := fun b hb => r2.block b hb fun i e hi ho => by rw [e5 i e hi] at ho; cases ho
  refine ⟨.ret v, s, ρ, ?_, ⟨rfl, rfl⟩, ⟨fun i e hi => ?_, h1.sep⟩, ⟨Nat.le_refl _, fun _ _ => rfl, fun i e h ho => .inl ⟨i, e, h, ho, rfl⟩, r2.os, r2.tape, r2.output, r2.size, fun b hb _ => hblk b hb⟩, h2, V.bd_mono (Nat.zero_le _) v hv⟩
  · simp only [Res.ending]
    rw [V.abs_congr (n := 0) (fun i hi => absurd hi (by omega)) v hv]
  · have hr := h1.ent i e hi
    cases hl : e.live with
    | true => exact RepE.congr (n := s.length) (fun _ _ => rfl) (List.getElem?_eq_some_iff.1 hi).1 (h2 i e hi) (hblk _ (hr.lt hl)) r2.size hr
    | false => cases e <;> simp_all [Ent.live, RepE]
/-- The cells of block i from off on. -/
def cellsAt (s : Sto) (i off : Nat) : List V := match s[i]? with
  | some e => match e.cells with
    | some cs => cs.drop off
    | none => []
  | none => []
theorem cellsAt_ro {s : Sto} {i off : Nat} {vs : List V} {rest : List V} (h : cellsAt s i off = vs ++ rest) (h0 : vs ≠ []) (hv : bdL 0 vs) {ρ : Rho} {w : World} (hr : Rep ρ s w) :
    Rep (fun _ => ((ρ i).1, (ρ i).2 + off)) [.ro vs] w ∧ sbd [.ro vs] := by
  have key : ∃ e cs, s[i]? = some e ∧ e.cells = some cs ∧ cs.drop off = vs ++ rest := by
    unfold cellsAt at h
    split at h
    · rename_i e he
      split at h
      · rename_i cs hc
        exact ⟨e, cs, he, hc, h⟩
      · exact absurd (List.append_eq_nil_iff.1 h.symm).1 h0
    · exact absurd (List.append_eq_nil_iff.1 h.symm).1 h0
  obtain ⟨e, cs, he, hc, hd⟩ := key
  have hro := hr.toRo.ent i (.ro cs) (by
    simp only [roS, List.getElem?_map, he]
    cases e <;> simp [Ent.cells] at hc <;> subst hc <;> rfl)
  refine ⟨⟨fun j x hx => ?_, fun a b e f ha _ ho => ?_⟩, fun j x hx => ?_⟩
  · cases j with
    | succ j => simp at hx
    | zero =>
      simp at hx
      subst hx
      refine ⟨hro.1, fun j v hj => ?_⟩
      have h1 : cs[off + j]? = some v := by
        rw [← List.getElem?_drop, hd, List.getElem?_append_left (List.getElem?_eq_some_iff.1 hj).1]
        exact hj
      have := hro.2 (off + j) v h1
      rw [V.abs_congr (ρ := ρ) (n := 0) (fun i hi => absurd hi (Nat.not_lt_zero i)) v (bdL_iff.1 hv v (List.mem_of_getElem? hj)), ← this]
      simp only [Nat.add_assoc]
  · cases a with
    | zero => simp at ha; subst ha; cases ho
    | succ a => simp at ha
  · cases j with
    | zero => simp at hx; subst hx; exact bdL_mono (Nat.zero_le _) _ hv
    | succ j => simp at hx
/-- A call with a pointer to flat cells, which it reads. -/
theorem CallOk.at {P : Program} {f : FuncId} {i off : Nat} {s : Sto} {vs rest args : List V} {v : V} (hv : v.bd 0) (hc : cellsAt s i off = vs ++ rest) (h0 : vs ≠ []) (hb : bdL 0 vs) (ha : bdL 0 args)
    (h : CallOk P f (.ptr 0 0 :: args) [.ro vs] fun r _ => r = .ret v) : CallOk P f (.ptr i off :: args) s fun r s' => r = .ret v ∧ s' = s := by
  refine CallOk.reads hv h.plain fun ρ w hr hs => ⟨_, .ptr 0 0 :: args, [.ro vs], ?_, (cellsAt_ro hc h0 hb hr).1, (cellsAt_ro hc h0 hb hr).2, ⟨Nat.zero_lt_one, bdL_mono (Nat.zero_le _) _ ha⟩, fun j e he => ?_, h⟩
  · simp only [absL, V.abs, Nat.add_zero]
    exact congrArg _ (absL_congr (n := 0) (fun i hi => absurd hi (Nat.not_lt_zero i)) args ha)
  · cases j with
    | zero => simp at he; subst he; rfl
    | succ j => simp at he
end Go.Proofs.YtalgegmcllcnmaaRL
end
