/- Parts of the proof, one behind the other. -/
import Derived.Test.YtllfmafebhifdaazWinBarriersRL15
import Derived.Test.YtllfmafebhifdaazWinBarriersRLT
section
/- RL and the rows of laws: arguments that are slices of flat elements. -/
namespace Go.Proofs.YtllfmafebhifdaaRL
open Go Go.ChangeShapes Go.WideShapes Go.ChangeAt Go.RowKit Go.Deep Go.Proofs.YtllfmafebhifdaaR
set_option linter.unusedVariables false
set_option linter.unusedSimpArgs false
/-- An argument: flat, or a slice whose elements have these cells. -/
inductive AS where
  | flat (a : AK)
  | sl (cs : List CK)
def argsOkS : Nat → List AS → List V → Sto → Prop
  | _, [], [], s => s = []
  | b, .flat a :: ks, v :: vs, s => argsOk [a] [v] ∧ argsOkS b ks vs s
  | b, .sl cs :: ks, v :: vs, e :: s => ((∃ p cap, v = .raw (.slice p 0 cap) ∧ e = .no) ∨ ∃ n cap ws, 0 < n ∧ v = .sl b 0 n cap ∧ e = .ro ws ∧ n ≤ cap ∧ cap ≤ maxLen ∧ rawsOk (reps n cs) ws) ∧ argsOkS (b + 1) ks vs s
  | _, _, _, _ => False
def argKindS (P : Program) (t : TypeId) : Option AS :=
  match argKind P t with
  | some a => some (.flat a)
  | none => match P.underlying t with
    | some (.slice e) => match kinds P 9 e with
      | some l => match Nat.beq (P.cellsOf e) l.length && Nat.blt 0 l.length with
        | true => some (.sl l)
        | false => none
      | none => none
    | _ => none
def argKindsS (P : Program) : List TypeId → Option (List AS)
  | [] => some []
  | t :: ts => match argKindS P t, argKindsS P ts with
    | some a, some as => some (a :: as)
    | _, _ => none
theorem reps_succ (n : Nat) (l : List CK) : reps (n + 1) l = reps n l ++ l := by
  simp [reps, List.replicate_succ', List.flatten_append]
section
variable {H : Type} {enc : TypeId × Value → H} {P : Program} {W : World} {base : Nat}
/-- A slice that is read: none of its own, or its cells. -/
theorem open_sl {sp : Nat → Bool} {held : Bool} {fuel : Nat} {t e : TypeId} {l : List CK} {cs : List Value} {y : DataW H × List MemPlace} (ht : P.underlying t = some (.slice e)) (hk : kinds P 9 e = some l) (hsz : P.cellsOf e = l.length) (hpos : 0 < l.length) (h : DataW.trod enc P W base sp held fuel t cs = some y) :
    (∃ p cap, cs = [.slice p 0 cap]) ∨ ∃ b o len cap ws, 0 < len ∧ cs = [.slice (some ⟨b, o, none⟩) len cap] ∧ len ≤ cap ∧ cap ≤ maxLen ∧ oks (reps len l) ws ∧ (∃ a t x, W.heap[b]? = some (.cells a t x)) ∧ ∀ (j : Nat) u, ws[j]? = some u → W.cell? ⟨b, o + j, none⟩ = some u := by
  rcases open_slice ht h with ⟨rfl, _⟩ | ⟨a, len, cap, m, n, D, Pl, rfl, hb, hl, hm, hmm, _, hi⟩
  · exact .inl ⟨_, _, rfl⟩
  · have hlm : len ≤ m := by rw [hmm]; split <;> omega
    have hall : ∀ k, k ≤ len → ∃ ws : List Value, ws.length = k * l.length ∧ oks (reps k l) ws ∧ ∀ (j : Nat) u, ws[j]? = some u → W.cell? (a.add j) = some u := by
      intro k
      induction k with
      | zero => intro _; exact ⟨[], by simp, trivial, fun j u hu => by simp at hu⟩
      | succ k ih =>
        intro hk'
        obtain ⟨ws, h1, h2, h3⟩ := ih (by omega)
        obtain ⟨c, hc, htr⟩ := hi k (by omega)
        have ho := kinds_sound _ _ _ hk _ _ _ htr
        rw [hsz] at hc
        obtain ⟨_, hcl, hat⟩ := World.cells?_some hc
        refine ⟨ws ++ c, by rw [List.length_append, h1, hcl, Nat.succ_mul], by rw [reps_succ]; exact oks_append h2 ho, fun j u hu => ?_⟩
        rcases Nat.lt_or_ge j ws.length with hj | hj
        · rw [List.getElem?_append_left hj] at hu
          exact h3 j u hu
        · rw [List.getElem?_append_right hj] at hu
          have hjl : j - ws.length < l.length := by rw [← hcl]; exact (List.getElem?_eq_some_iff.1 hu).1
          have := hat _ hjl
          rw [hu, Go.Deep.add_add] at this
          rw [← this]
          congr 2
          omega
    rcases Nat.eq_zero_or_pos len with h0 | h0
    · subst h0; exact .inl ⟨_, _, rfl⟩
    · right
      obtain ⟨ws, h1, h2, h3⟩ := hall len (Nat.le_refl _)
      have hws : 0 < ws.length := by rw [h1]; exact Nat.mul_pos h0 hpos
      have hfirst := h3 0 (ws[0]'hws) (by simp)
      obtain ⟨b, o, spot⟩ := a
      have hs : spot = none ∧ ∃ a t x, W.heap[b]? = some (.cells a t x) := by
        simp only [World.cell?, Addr.add] at hfirst
        split at hfirst
        · rename_i c t x hh
          cases spot with
          | none => exact ⟨rfl, _, _, _, hh⟩
          | some q => simp at hfirst
        · cases hfirst
      obtain ⟨rfl, hcells⟩ := hs
      exact ⟨b, o, len, cap, ws, h0, rfl, hl, hm, h2, hcells, fun j u hu => by have := h3 j u hu; rwa [Addr.add_lit] at this⟩
theorem open_argsS : ∀ {ts : List TypeId} {aks : List AS} {vs : List Value} {ds : List (DataW H)} {p : List MemPlace} (b : Nat), argKindsS P ts = some aks →
    (∀ (j : Nat) t v, ts[j]? = some t → vs[j]? = some v → Value.okWide P W .any base t v) → DataW.TrodAll enc P W 0 (fun _ => true) true ts vs ds p →
    ∃ (args : List V) (s : Sto) (pl : List (Nat × Nat)), argsOkS b aks args s ∧ pl.length = s.length ∧ (∀ ρ : Rho, (∀ i q, pl[i]? = some q → ρ (b + i) = q) → absL ρ args = vs ∧ ∀ (i : Nat) (e : Ent), s[i]? = some e → RepE ρ W (b + i) e) ∧ bdL (b + s.length) args ∧ ∀ e ∈ s, e.isOwn = false ∧ e.bd 0 := by
  intro ts
  induction ts with
  | nil =>
    intro aks vs ds p b h hv hA
    simp only [argKindsS, Option.some.injEq] at h
    subst h
    obtain ⟨rfl, rfl, rfl⟩ := trodAll_nil hA
    exact ⟨[], [], [], rfl, rfl, fun ρ _ => ⟨rfl, fun i e he => by simp at he⟩, trivial, fun e he => by cases he⟩
  | cons t ts ih =>
    intro aks vs ds p b h hv hA
    obtain ⟨v, vs', d, ds', p', q', rfl, rfl, rfl, h0, r0⟩ := trodAll_cons hA
    simp only [argKindsS] at h
    split at h
    case h_2 => cases h
    rename_i ak as h1 h2
    simp only [Option.some.injEq] at h
    subst h
    have hv' : ∀ (j : Nat) u x, ts[j]? = some u → vs'[j]? = some x → Value.okWide P W .any base u x := fun j u x hj hx => hv (j + 1) u x (by simpa using hj) (by simpa using hx)
    have hok := hv 0 t v rfl rfl
    unfold argKindS at h1
    split at h1
    · rename_i a ha
      cases h1
      obtain ⟨args, s, pl, a1, a2, a3, a4, a5⟩ := ih b h2 hv' r0
      obtain ⟨fuel, hf⟩ := h0
      have hone : DataW.TrodAll enc P W 0 (fun _ => true) true [t] [v] [d] p' := trodAll_mk1 ⟨fuel, hf⟩
      obtain ⟨w1, b1, b2, b3⟩ := open_args (P := P) (W := W) (base := base) (ts := [t]) (aks := [a]) (by simp [argKinds, ha]) (fun j u x hj hx => by
        cases j with
        | zero => simp at hj hx; subst hj hx; exact hok
        | succ j => simp at hj) hone
      have hl1 : w1.length = 1 := by have := congrArg List.length (b2 fun _ => (0, 0)); rwa [absL_length] at this
      match w1, hl1, b1, b2, b3 with
      | [w], _, b1, b2, b3 =>
        refine ⟨w :: args, s, pl, ⟨b1, a1⟩, a2, fun ρ hρ => ⟨?_, (a3 ρ hρ).2⟩, ⟨V.bd_mono (Nat.zero_le _) w b3.1, a4⟩, a5⟩
        have := b2 ρ
        simp only [absL, List.cons.injEq, and_true] at this
        simp only [absL, this, (a3 ρ hρ).1]
    · rename_i hnone
      split at h1
      case h_2 => cases h1
      rename_i e ht
      split at h1
      case h_2 => cases h1
      rename_i l hl
      split at h1
      case h_2 => cases h1
      rename_i hck
      cases h1
      simp only [Bool.and_eq_true, Nat.blt_eq] at hck
      have hsz := Nat.eq_of_beq_eq_true hck.1
      obtain ⟨args, s, pl, a1, a2, a3, a4, a5⟩ := ih (b + 1) h2 hv' r0
      obtain ⟨fuel, hf⟩ := h0
      obtain ⟨a0, len0, cap0, rfl⟩ := okWide_slice ht hok
      have hcs : (Value.slice a0 len0 cap0).cells = #[.slice a0 len0 cap0] := rfl
      have hshift : ∀ ρ : Rho, ∀ q0, (∀ i q, (q0 :: pl)[i]? = some q → ρ (b + i) = q) → ρ b = q0 ∧ ∀ i q, pl[i]? = some q → ρ (b + 1 + i) = q := fun ρ q0 hρ =>
        ⟨by have := hρ 0 q0 rfl; simpa using this, fun i q hq => by have := hρ (i + 1) q (by simpa using hq); rwa [show b + 1 + i = b + (i + 1) by omega]⟩
      have hbd : bdL (b + (s.length + 1)) args := by rw [show b + (s.length + 1) = b + 1 + s.length by omega]; exact a4
      rcases open_sl ht hl hsz hck.2 hf with ⟨p0, c0, hc⟩ | ⟨bb, o, len, cap, ws, k1, hc, k2, k3, k4, k5, k6⟩
      · have hc : Value.slice a0 len0 cap0 = .slice p0 0 c0 := by simpa [hcs] using hc
        cases hc
        refine ⟨.raw (.slice a0 0 cap0) :: args, .no :: s, (0, 0) :: pl, ⟨.inl ⟨_, _, rfl, rfl⟩, a1⟩, by simp [a2], fun ρ hρ => ?_, ⟨trivial, hbd⟩, fun e he => ?_⟩
        · obtain ⟨q1, q2⟩ := hshift ρ _ hρ
          refine ⟨by simp only [absL, V.abs, (a3 ρ q2).1], fun i e he => ?_⟩
          cases i with
          | zero => simp at he; subst he; trivial
          | succ i =>
            have := (a3 ρ q2).2 i e (by simpa using he)
            rwa [show b + 1 + i = b + (i + 1) by omega] at this
        · rcases List.mem_cons.1 he with rfl | he
          · exact ⟨rfl, trivial⟩
          · exact a5 e he
      · have hc : Value.slice a0 len0 cap0 = .slice (some ⟨bb, o, none⟩) len cap := by simpa [hcs] using hc
        cases hc
        refine ⟨.sl b 0 len0 cap0 :: args, .ro (ws.map .raw) :: s, (bb, o) :: pl, ⟨.inr ⟨len0, cap0, _, k1, rfl, rfl, k2, k3, rawsOk_of k4⟩, a1⟩, by simp [a2], fun ρ hρ => ?_, ⟨by show b < _; simp, hbd⟩, fun e he => ?_⟩
        · obtain ⟨q1, q2⟩ := hshift ρ _ hρ
          refine ⟨by simp only [absL, V.abs, (a3 ρ q2).1, q1, Nat.add_zero], fun i e he => ?_⟩
          cases i with
          | zero =>
            simp at he; subst he
            refine ⟨by rw [Nat.add_zero, q1]; exact k5, fun j v hj => ?_⟩
            rw [List.getElem?_map] at hj
            obtain ⟨u, hu, rfl⟩ := Option.map_eq_some_iff.1 hj
            rw [Nat.add_zero, q1]
            exact k6 j u hu
          | succ i =>
            have := (a3 ρ q2).2 i e (by simpa using he)
            rwa [show b + 1 + i = b + (i + 1) by omega] at this
        · rcases List.mem_cons.1 he with rfl | he
          · exact ⟨rfl, bdL_raw _ _⟩
          · exact a5 e he
end
end Go.Proofs.YtllfmafebhifdaaRL
end
section
/- RL and the rows of laws: slices of flat elements among the arguments, told by columns. -/
namespace Go.Proofs.YtllfmafebhifdaaRL
open Go
set_option linter.unusedVariables false
set_option linter.unusedSimpArgs false
def colsOkA : List CK → List Col → Nat → Prop
  | [], [], _ => True
  | .int k :: ks, .int k' g :: cs, n => k' = k ∧ (∀ j, j < n → (Lit.int k (g j)).wf = true) ∧ colsOkA ks cs n
  | .bool :: ks, .bool _ :: cs, n => colsOkA ks cs n
  | _, _, _ => False
def argsOkA : Nat → List AS → List V → Sto → Prop
  | _, [], [], s => s = []
  | b, .flat a :: ks, v :: vs, s => argsOk [a] [v] ∧ argsOkA b ks vs s
  | b, .sl cs :: ks, v :: vs, e :: s => ((∃ p cap, v = .raw (.slice p 0 cap) ∧ e = .no) ∨ ∃ n cap cols, 0 < n ∧ v = .sle b cs.length 0 n cap ∧ e = .arr .ro cols n 0 ∧ n ≤ cap ∧ cap ≤ maxLen ∧ colsOkA cs cols n) ∧ argsOkA (b + 1) ks vs s
  | _, _, _, _ => False
def intAt : V → Int
  | .raw (.int _ x) => x
  | _ => 0
def boolAt : V → Bool
  | .raw (.bool x) => x
  | _ => false
def colsFrom (z : Nat) (ws : List V) : List CK → Nat → List Col
  | [], _ => []
  | .int k :: ks, c => .int k (fun j => intAt (ws.getD (j * z + c) (.raw undef))) :: colsFrom z ws ks (c + 1)
  | .bool :: ks, c => .bool (fun j => boolAt (ws.getD (j * z + c) (.raw undef))) :: colsFrom z ws ks (c + 1)
theorem colsFrom_length {z : Nat} {ws : List V} : ∀ {ks : List CK} {c : Nat}, (colsFrom z ws ks c).length = ks.length := by
  intro ks
  induction ks with
  | nil => intro c; rfl
  | cons k ks ih => intro c; cases k <;> simp [colsFrom, ih]
theorem rawsOk_get : ∀ {ks : List CK} {ws : List V}, rawsOk ks ws → ws.length = ks.length ∧ ∀ (i : Nat) k, ks[i]? = some k → ∃ u, ws[i]? = some (.raw u) ∧ k.ok u := by
  intro ks
  induction ks with
  | nil => intro ws h; cases ws with
    | nil => exact ⟨rfl, fun i k h => by simp at h⟩
    | cons w ws => exact h.elim
  | cons k ks ih =>
    intro ws h
    cases ws with
    | nil => exact h.elim
    | cons w ws =>
      cases w <;> try exact h.elim
      rename_i v
      obtain ⟨h1, h2⟩ := h
      obtain ⟨i1, i2⟩ := ih h2
      refine ⟨by simp [i1], fun i q hq => ?_⟩
      cases i with
      | zero => simp at hq; subst hq; exact ⟨v, rfl, h1⟩
      | succ i => simpa using i2 i q (by simpa using hq)
theorem reps_get {l : List CK} : ∀ {n j c : Nat} {k : CK}, j < n → l[c]? = some k → (reps n l)[j * l.length + c]? = some k := by
  intro n
  induction n with
  | zero => intro j c k hj; omega
  | succ n ih =>
    intro j c k hj hc
    rw [reps_succ]
    have hl : (reps n l).length = n * l.length := by simp [reps]
    have hcl := (List.getElem?_eq_some_iff.1 hc).1
    rcases Nat.lt_or_ge j n with h | h
    · have : (j + 1) * l.length ≤ n * l.length := Nat.mul_le_mul_right _ h
      rw [Nat.add_mul, Nat.one_mul] at this
      rw [List.getElem?_append_left (by omega)]
      exact ih h hc
    · obtain rfl : j = n := by omega
      rw [List.getElem?_append_right (by omega), hl, Nat.add_sub_cancel_left]
      exact hc
theorem colsFrom_ok {z n : Nat} {ws : List V} (hz : ∀ (j c : Nat) k, j < n → ∀ (ks : List CK), ks[c]? = some k → True) : ∀ {ks : List CK} {c : Nat}, (∀ (j q : Nat) k, j < n → ks[q]? = some k → ∃ u, ws[j * z + (c + q)]? = some (.raw u) ∧ k.ok u) →
    colsOkA ks (colsFrom z ws ks c) n ∧ ∀ (j q : Nat) col u, j < n → (colsFrom z ws ks c)[q]? = some col → col.at j = some u → ws[j * z + (c + q)]? = some (.raw u) := by
  intro ks
  induction ks with
  | nil => intro c h; exact ⟨trivial, fun j q col u hj hc => by simp [colsFrom] at hc⟩
  | cons k ks ih =>
    intro c h
    obtain ⟨i1, i2⟩ := ih (c := c + 1) fun j q k' hj hq => by
      have := h j (q + 1) k' hj (by simpa using hq)
      rwa [show c + (q + 1) = c + 1 + q by omega] at this
    have h0 : ∀ j, j < n → ∃ u, ws[j * z + c]? = some (.raw u) ∧ k.ok u := fun j hj => by simpa using h j 0 k hj rfl
    have rest : ∀ (q : Nat) (j : Nat) col u, j < n → (colsFrom z ws ks (c + 1))[q]? = some col → col.at j = some u → ws[j * z + (c + (q + 1))]? = some (.raw u) := fun q j col u hj hc hu => by
      have := i2 j q col u hj hc hu
      rwa [show c + 1 + q = c + (q + 1) by omega] at this
    cases k with
    | int ik =>
      refine ⟨⟨rfl, fun j hj => ?_, i1⟩, fun j q col u hj hc hu => ?_⟩
      · obtain ⟨u, hu, x, rfl, hx⟩ := h0 j hj
        show (Lit.int ik (intAt (ws.getD (j * z + c) (.raw undef)))).wf = true
        rw [List.getD_eq_getElem?_getD, hu]; exact hx
      · cases q with
        | zero =>
          simp only [colsFrom, List.getElem?_cons_zero, Option.some.injEq] at hc
          subst hc
          obtain ⟨u', hu', x, rfl, hx⟩ := h0 j hj
          simp only [Col.at, Option.some.injEq] at hu
          subst hu
          rw [Nat.add_zero, List.getD_eq_getElem?_getD, hu']; rfl
        | succ q => exact rest q j col u hj (by simpa [colsFrom] using hc) hu
    | bool =>
      refine ⟨i1, fun j q col u hj hc hu => ?_⟩
      cases q with
      | zero =>
        simp only [colsFrom, List.getElem?_cons_zero, Option.some.injEq] at hc
        subst hc
        obtain ⟨u', hu', x, rfl⟩ := h0 j hj
        simp only [Col.at, Option.some.injEq] at hu
        subst hu
        rw [Nat.add_zero, List.getD_eq_getElem?_getD, hu']; rfl
      | succ q => exact rest q j col u hj (by simpa [colsFrom] using hc) hu
theorem ck_one {k : CK} {u : Value} (h : k.ok u) : u.oneCell' = true := by
  cases k with
  | int k => obtain ⟨n, rfl, _⟩ := h; rfl
  | bool => obtain ⟨b, rfl⟩ := h; rfl
/-- The same places, told otherwise. -/
theorem CallOk.conv {P : Program} {f : FuncId} {args args' : List V} {s s' : Sto} {K : Res → Sto → Prop} (hl : s'.length = s.length) (hr : ∀ ρ w, Rep ρ s w → sbd s → bdL s.length args → Rep ρ s' w ∧ sbd s' ∧ bdL s'.length args' ∧ absL ρ args' = absL ρ args) (ho : s.map Ent.isOwn = s'.map Ent.isOwn)
    (h : CallOk P f args' s' K) : CallOk P f args s K := by
  refine ⟨h.plain, fun ρ w h1 h2 h3 => ?_⟩
  obtain ⟨q1, q2, q3, q4⟩ := hr ρ w h1 h2 h3
  rw [← q4]
  refine (h.run ρ w q1 q2 q3).mono ?_
  rintro e w' ⟨r, s2, ρ', e1, e2, e3, e4, e5, e6⟩
  exact ⟨r, s2, ρ', e1, e2, e3, e4.conv ho.symm rfl, e5, e6⟩
theorem argsA_of : ∀ {ks : List AS} {b : Nat} {args : List V} {s : Sto}, argsOkS b ks args s → ∃ args' s', argsOkA b ks args' s' ∧ s'.length = s.length ∧ s.map Ent.isOwn = s'.map Ent.isOwn ∧ (∀ ρ, absL ρ args' = absL ρ args) ∧ (∀ n, bdL n args → bdL n args') ∧
    (∀ (ρ : Rho) (w : World) (i : Nat), (∀ (j : Nat) e, s[j]? = some e → RepE ρ w (i + j) e) → ∀ (j : Nat) e, s'[j]? = some e → RepE ρ w (i + j) e) ∧ ∀ e ∈ s', e.isOwn = false ∧ e.bd 0 := by
  intro ks
  induction ks with
  | nil =>
    intro b args s h
    cases args with
    | nil => simp only [argsOkS] at h; subst h; exact ⟨[], [], rfl, rfl, rfl, fun _ => rfl, fun _ h => h, fun ρ w i h j e he => by simp at he, fun e he => by cases he⟩
    | cons a args => exact h.elim
  | cons k ks ih =>
    intro b args s h
    cases args with
    | nil => cases k <;> exact h.elim
    | cons v vs =>
      cases k with
      | flat a =>
        obtain ⟨h1, h2⟩ := h
        obtain ⟨args', s', i1, i2, i3, i4, i5, i6, i7⟩ := ih h2
        exact ⟨v :: args', s', ⟨h1, i1⟩, i2, i3, fun ρ => by simp only [absL, i4], fun n hb => ⟨hb.1, i5 n hb.2⟩, i6, i7⟩
      | sl cs =>
        cases s with
        | nil => exact h.elim
        | cons e s =>
          obtain ⟨h1, h2⟩ := h
          obtain ⟨args', s', i1, i2, i3, i4, i5, i6, i7⟩ := ih h2
          rcases h1 with ⟨p, cap, rfl, rfl⟩ | ⟨n, cap, ws, hn, rfl, rfl, hcap, hmx, hraw⟩
          · refine ⟨.raw (.slice p 0 cap) :: args', .no :: s', ⟨.inl ⟨p, cap, rfl, rfl⟩, i1⟩, by simp [i2], by simp [i3], fun ρ => by simp only [absL, i4], fun n hb => ⟨trivial, i5 n hb.2⟩, fun ρ w i h j e he => ?_, fun e he => ?_⟩
            · cases j with
              | zero => simp at he; subst he; trivial
              | succ j =>
                have := i6 ρ w (i + 1) (fun j e he => by have := h (j + 1) e (by simpa using he); rwa [show i + (j + 1) = i + 1 + j by omega] at this) j e (by simpa using he)
                rwa [show i + (j + 1) = i + 1 + j by omega]
            · rcases List.mem_cons.1 he with rfl | he
              · exact ⟨rfl, trivial⟩
              · exact i7 e he
          · obtain ⟨g1, g2⟩ := rawsOk_get hraw
            have gl : (reps n cs).length = n * cs.length := by simp [reps]
            obtain ⟨c1, c2⟩ := colsFrom_ok (z := cs.length) (n := n) (ws := ws) (fun _ _ _ _ _ _ => trivial) (ks := cs) (c := 0) fun j q k hj hq => by
              obtain ⟨u, hu, hk⟩ := g2 _ _ (reps_get hj hq)
              exact ⟨u, by rw [Nat.zero_add]; exact hu, hk⟩
            refine ⟨.sle b cs.length 0 n cap :: args', .arr .ro (colsFrom cs.length ws cs 0) n 0 :: s', ⟨.inr ⟨n, cap, _, hn, rfl, rfl, hcap, hmx, c1⟩, i1⟩, by simp [i2], by simp [i3, Ent.isOwn], fun ρ => by simp only [absL, i4, V.abs]; simp, fun n hb => ⟨hb.1, i5 n hb.2⟩, fun ρ w i h j e he => ?_, fun e he => ?_⟩
            · cases j with
              | zero =>
                simp at he; subst he
                have h0 := h 0 _ rfl
                have hall : ∀ v ∈ ws, ∃ u : Value, v = .raw u ∧ u.oneCell' = true := by
                  intro v hv
                  obtain ⟨q, hq, hqv⟩ := List.mem_iff_getElem.1 hv
                  have hk : q < (reps n cs).length := by omega
                  obtain ⟨u, hu, huk⟩ := g2 q _ (List.getElem?_eq_getElem hk)
                  rw [List.getElem?_eq_getElem hq, hqv] at hu
                  exact ⟨u, Option.some.inj hu, ck_one huk⟩
                refine ⟨absL ρ ws, by rw [absL_length, colsFrom_length, g1, gl], fun u hu => ?_, fun j c col u hj hc hu => ?_, h0.1, fun j v hj => ?_⟩
                · rw [absL_map] at hu
                  obtain ⟨v, hv, rfl⟩ := List.mem_map.1 hu
                  obtain ⟨u, rfl, hu2⟩ := hall v hv
                  exact hu2
                · have := c2 j c col u hj hc hu
                  rw [Nat.zero_add] at this
                  rw [colsFrom_length, absL_get, this]; rfl
                · rw [absL_get] at hj
                  obtain ⟨u, hu, rfl⟩ := Option.map_eq_some_iff.1 hj
                  exact h0.2 j u hu
              | succ j =>
                have := i6 ρ w (i + 1) (fun j e he => by have := h (j + 1) e (by simpa using he); rwa [show i + (j + 1) = i + 1 + j by omega] at this) j e (by simpa using he)
                rwa [show i + (j + 1) = i + 1 + j by omega]
            · rcases List.mem_cons.1 he with rfl | he
              · exact ⟨rfl, trivial⟩
              · exact i7 e he
theorem argsOkA_nil {b : Nat} {args : List V} {s : Sto} (h : argsOkA b [] args s) : args = [] ∧ s = [] := by
  cases args with
  | nil => exact ⟨rfl, h⟩
  | cons a args => exact h.elim
theorem argsOkA_flat {b : Nat} {a : AK} {ks : List AS} {args : List V} {s : Sto} (h : argsOkA b (.flat a :: ks) args s) : ∃ v vs, args = v :: vs ∧ argsOk [a] [v] ∧ argsOkA b ks vs s := by
  cases args with
  | nil => exact h.elim
  | cons v vs => exact ⟨v, vs, rfl, h.1, h.2⟩
theorem argsOkA_sl {b : Nat} {cs : List CK} {ks : List AS} {args : List V} {s : Sto} (h : argsOkA b (.sl cs :: ks) args s) :
    (∃ p cap vs s', args = .raw (.slice p 0 cap) :: vs ∧ s = .no :: s' ∧ argsOkA (b + 1) ks vs s') ∨ ∃ n cap cols vs s', 0 < n ∧ args = .sle b cs.length 0 n cap :: vs ∧ s = .arr .ro cols n 0 :: s' ∧ n ≤ cap ∧ cap ≤ maxLen ∧ colsOkA cs cols n ∧ argsOkA (b + 1) ks vs s' := by
  cases args with
  | nil => exact h.elim
  | cons v vs =>
    cases s with
    | nil => exact h.elim
    | cons e s =>
      obtain ⟨h1, h2⟩ := h
      rcases h1 with ⟨p, cap, rfl, rfl⟩ | ⟨n, cap, cols, hn, rfl, rfl, hcap, hmx, hc⟩
      · exact .inl ⟨p, cap, vs, s, rfl, rfl, h2⟩
      · exact .inr ⟨n, cap, cols, vs, s, hn, rfl, rfl, hcap, hmx, hc, h2⟩
theorem colsOkA_nil {cols : List Col} {n : Nat} (h : colsOkA [] cols n) : cols = [] := by
  cases cols with
  | nil => rfl
  | cons c cols => exact h.elim
theorem colsOkA_int {k : IntKind} {ks : List CK} {cols : List Col} {n : Nat} (h : colsOkA (.int k :: ks) cols n) : ∃ g cs, cols = .int k g :: cs ∧ (∀ j, j < n → (Lit.int k (g j)).wf = true) ∧ colsOkA ks cs n := by
  cases cols with
  | nil => exact h.elim
  | cons c cols =>
    cases c <;> try exact h.elim
    obtain ⟨rfl, h1, h2⟩ := h
    exact ⟨_, _, rfl, h1, h2⟩
theorem colsOkA_bool {ks : List CK} {cols : List Col} {n : Nat} (h : colsOkA (.bool :: ks) cols n) : ∃ g cs, cols = .bool g :: cs ∧ colsOkA ks cs n := by
  cases cols with
  | nil => exact h.elim
  | cons c cols =>
    cases c <;> try exact h.elim
    exact ⟨_, _, rfl, h⟩
end Go.Proofs.YtllfmafebhifdaaRL
end
