/- RL and the rows of laws: arguments that are slices of flat elements. -/
import Derived.Test.YtbjikmepfpkmjaazEncRowsRLRow2
namespace Go.Proofs.YtbjikmepfpkmjaaRL
open Go Go.ChangeShapes Go.WideShapes Go.ChangeAt Go.RowKit Go.Deep Go.Proofs.YtbjikmepfpkmjaaR
set_option linter.unusedVariables false
set_option linter.unusedSimpArgs false
/-- An argument: flat, or a slice whose elements have these cells. -/
inductive AS where
  | flat (a : AK)
  | sl (cs : List CK)
def argsOkS : Nat → List AS → List V → Sto → Prop
  | _, [], [], s => s = []
  | b, .flat a :: ks, v :: vs, s => argsOk [a] [v] ∧ argsOkS b ks vs s
  | b, .sl cs :: ks, v :: vs, e :: s => ((∃ p cap, v = .raw (.slice p 0 cap) ∧ e = .no) ∨ ∃ n cap ws, 0 < n ∧ v = .sl b 0 n cap ∧ e = .ro ws ∧ n ≤ cap ∧ cap ≤ maxLen ∧ rawsOk (reps n cs) ws) ∧ argsOkS (b + 1) ks vs s
  | _, _, _, _ => False
def argKindS (P : Program) (t : TypeId) : Option AS :=
  match argKind P t with
  | some a => some (.flat a)
  | none => match P.underlying t with
    | some (.slice e) => match kinds P 9 e with
      | some l => match Nat.beq (P.cellsOf e) l.length && Nat.blt 0 l.length with
        | true => some (.sl l)
        | false => none
      | none => none
    | _ => none
def argKindsS (P : Program) : List TypeId → Option (List AS)
  | [] => some []
  | t :: ts => match argKindS P t, argKindsS P ts with
    | some a, some as => some (a :: as)
    | _, _ => none
theorem reps_succ (n : Nat) (l : List CK) : reps (n + 1) l = reps n l ++ l := by
  simp [reps, List.replicate_succ', List.flatten_append]
section
variable {H : Type} {enc : TypeId × Value → H} {P : Program} {W : World} {base : Nat}
/-- A slice that is read: none of its own, or its cells. -/
theorem open_sl {sp : Nat → Bool} {held : Bool} {fuel : Nat} {t e : TypeId} {l : List CK} {cs : List Value} {y : DataW H × List MemPlace} (ht : P.underlying t = some (.slice e)) (hk : kinds P 9 e = some l) (hsz : P.cellsOf e = l.length) (hpos : 0 < l.length) (h : DataW.trod enc P W base sp held fuel t cs = some y) :
    (∃ p cap, cs = [.slice p 0 cap]) ∨ ∃ b o len cap ws, 0 < len ∧ cs = [.slice (some ⟨b, o, none⟩) len cap] ∧ len ≤ cap ∧ cap ≤ maxLen ∧ oks (reps len l) ws ∧ (∃ a t x, W.heap[b]? = some (.cells a t x)) ∧ ∀ (j : Nat) u, ws[j]? = some u → W.cell? ⟨b, o + j, none⟩ = some u := by
  rcases open_slice ht h with ⟨rfl, _⟩ | ⟨a, len, cap, m, n, D, Pl, rfl, hb, hl, hm, hmm, _, hi⟩
  · exact .inl ⟨_, _, rfl⟩
  · have hlm : len ≤ m := by rw [hmm]; split <;> omega
    have hall : ∀ k, k ≤ len → ∃ ws : List Value, ws.length = k * l.length ∧ oks (reps k l) ws ∧ ∀ (j : Nat) u, ws[j]? = some u → W.cell? (a.add j) = some u := by
      intro k
      induction k with
      | zero => intro _; exact ⟨[], by simp, trivial, fun j u hu => by simp at hu⟩
      | succ k ih =>
        intro hk'
        obtain ⟨ws, h1, h2, h3⟩ := ih (by omega)
        obtain ⟨c, hc, htr⟩ := hi k (by omega)
        have ho := kinds_sound _ _ _ hk _ _ _ htr
        rw [hsz] at hc
        obtain ⟨_, hcl, hat⟩ := World.cells?_some hc
        refine ⟨ws ++ c, by rw [List.length_append, h1, hcl, Nat.succ_mul], by rw [reps_succ]; exact oks_append h2 ho, fun j u hu => ?_⟩
        rcases Nat.lt_or_ge j ws.length with hj | hj
        · rw [List.getElem?_append_left hj] at hu
          exact h3 j u hu
        · rw [List.getElem?_append_right hj] at hu
          have hjl : j - ws.length < l.length := by rw [← hcl]; exact (List.getElem?_eq_some_iff.1 hu).1
          have := hat _ hjl
          rw [hu, Go.Deep.add_add] at this
          rw [← this]
          congr 2
          omega
    rcases Nat.eq_zero_or_pos len with h0 | h0
    · subst h0; exact .inl ⟨_, _, rfl⟩
    · right
      obtain ⟨ws, h1, h2, h3⟩ := hall len (Nat.le_refl _)
      have hws : 0 < ws.length := by rw [h1]; exact Nat.mul_pos h0 hpos
      have hfirst := h3 0 (ws[0]'hws) (by simp)
      obtain ⟨b, o, spot⟩ := a
      have hs : spot = none ∧ ∃ a t x, W.heap[b]? = some (.cells a t x) := by
        simp only [World.cell?, Addr.add] at hfirst
        split at hfirst
        · rename_i c t x hh
          cases spot with
          | none => exact ⟨rfl, _, _, _, hh⟩
          | some q => simp at hfirst
        · cases hfirst
      obtain ⟨rfl, hcells⟩ := hs
      exact ⟨b, o, len, cap, ws, h0, rfl, hl, hm, h2, hcells, fun j u hu => by have := h3 j u hu; rwa [Addr.add_lit] at this⟩
theorem open_argsS : ∀ {ts : List TypeId} {aks : List AS} {vs : List Value} {ds : List (DataW H)} {p : List MemPlace} (b : Nat), argKindsS P ts = some aks →
    (∀ (j : Nat) t v, ts[j]? = some t → vs[j]? = some v → Value.okWide P W .any base t v) → DataW.TrodAll enc P W 0 (fun _ => true) true ts vs ds p →
    ∃ (args : List V) (s : Sto) (pl : List (Nat × Nat)), argsOkS b aks args s ∧ pl.length = s.length ∧ (∀ ρ : Rho, (∀ i q, pl[i]? = some q → ρ (b + i) = q) → absL ρ args = vs ∧ ∀ (i : Nat) (e : Ent), s[i]? = some e → RepE ρ W (b + i) e) ∧ bdL (b + s.length) args ∧ ∀ e ∈ s, e.isOwn = false ∧ e.bd 0 := by
  intro ts
  induction ts with
  | nil =>
    intro aks vs ds p b h hv hA
    simp only [argKindsS, Option.some.injEq] at h
    subst h
    obtain ⟨rfl, rfl, rfl⟩ := trodAll_nil hA
    exact ⟨[], [], [], rfl, rfl, fun ρ _ => ⟨rfl, fun i e he => by simp at he⟩, trivial, fun e he => by cases he⟩
  | cons t ts ih =>
    intro aks vs ds p b h hv hA
    obtain ⟨v, vs', d, ds', p', q', rfl, rfl, rfl, h0, r0⟩ := trodAll_cons hA
    simp only [argKindsS] at h
    split at h
    case h_2 => cases h
    rename_i ak as h1 h2
    simp only [Option.some.injEq] at h
    subst h
    have hv' : ∀ (j : Nat) u x, ts[j]? = some u → vs'[j]? = some x → Value.okWide P W .any base u x := fun j u x hj hx => hv (j + 1) u x (by simpa using hj) (by simpa using hx)
    have hok := hv 0 t v rfl rfl
    unfold argKindS at h1
    split at h1
    · rename_i a ha
      cases h1
      obtain ⟨args, s, pl, a1, a2, a3, a4, a5⟩ := ih b h2 hv' r0
      obtain ⟨fuel, hf⟩ := h0
      have hone : DataW.TrodAll enc P W 0 (fun _ => true) true [t] [v] [d] p' := trodAll_mk1 ⟨fuel, hf⟩
      obtain ⟨w1, b1, b2, b3⟩ := open_args (P := P) (W := W) (base := base) (ts := [t]) (aks := [a]) (by simp [argKinds, ha]) (fun j u x hj hx => by
        cases j with
        | zero => simp at hj hx; subst hj hx; exact hok
        | succ j => simp at hj) hone
      have hl1 : w1.length = 1 := by have := congrArg List.length (b2 fun _ => (0, 0)); rwa [absL_length] at this
      match w1, hl1, b1, b2, b3 with
      | [w], _, b1, b2, b3 =>
        refine ⟨w :: args, s, pl, ⟨b1, a1⟩, a2, fun ρ hρ => ⟨?_, (a3 ρ hρ).2⟩, ⟨V.bd_mono (Nat.zero_le _) w b3.1, a4⟩, a5⟩
        have := b2 ρ
        simp only [absL, List.cons.injEq, and_true] at this
        simp only [absL, this, (a3 ρ hρ).1]
    · rename_i hnone
      split at h1
      case h_2 => cases h1
      rename_i e ht
      split at h1
      case h_2 => cases h1
      rename_i l hl
      split at h1
      case h_2 => cases h1
      rename_i hck
      cases h1
      simp only [Bool.and_eq_true, Nat.blt_eq] at hck
      have hsz := Nat.eq_of_beq_eq_true hck.1
      obtain ⟨args, s, pl, a1, a2, a3, a4, a5⟩ := ih (b + 1) h2 hv' r0
      obtain ⟨fuel, hf⟩ := h0
      obtain ⟨a0, len0, cap0, rfl⟩ := okWide_slice ht hok
      have hcs : (Value.slice a0 len0 cap0).cells = #[.slice a0 len0 cap0] := rfl
      have hshift : ∀ ρ : Rho, ∀ q0, (∀ i q, (q0 :: pl)[i]? = some q → ρ (b + i) = q) → ρ b = q0 ∧ ∀ i q, pl[i]? = some q → ρ (b + 1 + i) = q := fun ρ q0 hρ =>
        ⟨by have := hρ 0 q0 rfl; simpa using this, fun i q hq => by have := hρ (i + 1) q (by simpa using hq); rwa [show b + 1 + i = b + (i + 1) by omega]⟩
      have hbd : bdL (b + (s.length + 1)) args := by rw [show b + (s.length + 1) = b + 1 + s.length by omega]; exact a4
      rcases open_sl ht hl hsz hck.2 hf with ⟨p0, c0, hc⟩ | ⟨bb, o, len, cap, ws, k1, hc, k2, k3, k4, k5, k6⟩
      · have hc : Value.slice a0 len0 cap0 = .slice p0 0 c0 := by simpa [hcs] using hc
        cases hc
        refine ⟨.raw (.slice a0 0 cap0) :: args, .no :: s, (0, 0) :: pl, ⟨.inl ⟨_, _, rfl, rfl⟩, a1⟩, by simp [a2], fun ρ hρ => ?_, ⟨trivial, hbd⟩, fun e he => ?_⟩
        · obtain ⟨q1, q2⟩ := hshift ρ _ hρ
          refine ⟨by simp only [absL, V.abs, (a3 ρ q2).1], fun i e he => ?_⟩
          cases i with
          | zero => simp at he; subst he; trivial
          | succ i =>
            have := (a3 ρ q2).2 i e (by simpa using he)
            rwa [show b + 1 + i = b + (i + 1) by omega] at this
        · rcases List.mem_cons.1 he with rfl | he
          · exact ⟨rfl, trivial⟩
          · exact a5 e he
      · have hc : Value.slice a0 len0 cap0 = .slice (some ⟨bb, o, none⟩) len cap := by simpa [hcs] using hc
        cases hc
        refine ⟨.sl b 0 len0 cap0 :: args, .ro (ws.map .raw) :: s, (bb, o) :: pl, ⟨.inr ⟨len0, cap0, _, k1, rfl, rfl, k2, k3, rawsOk_of k4⟩, a1⟩, by simp [a2], fun ρ hρ => ?_, ⟨by show b < _; simp, hbd⟩, fun e he => ?_⟩
        · obtain ⟨q1, q2⟩ := hshift ρ _ hρ
          refine ⟨by simp only [absL, V.abs, (a3 ρ q2).1, q1, Nat.add_zero], fun i e he => ?_⟩
          cases i with
          | zero =>
            simp at he; subst he
            refine ⟨by rw [Nat.add_zero, q1]; exact k5, fun j v hj => ?_⟩
            rw [List.getElem?_map] at hj
            obtain ⟨u, hu, rfl⟩ := Option.map_eq_some_iff.1 hj
            rw [Nat.add_zero, q1]
            exact k6 j u hu
          | succ i =>
            have := (a3 ρ q2).2 i e (by simpa using he)
            rwa [show b + 1 + i = b + (i + 1) by omega] at this
        · rcases List.mem_cons.1 he with rfl | he
          · exact ⟨rfl, bdL_raw _ _⟩
          · exact a5 e he
theorem callsS {f : FuncId} {ts : List TypeId} {aks : List AS} {xs : Array Value} {ds : List (DataW H)} {p : List MemPlace} (hv : ∀ (j : Nat) t v, ts[j]? = some t → xs.toList[j]? = some v → Value.okWide P W .any base t v) (hA : DataW.TrodAll enc P W 0 (fun _ => true) true ts xs.toList ds p)
    (hk : argKindsS P ts = some aks) (law : ∀ args s, argsOkS 0 aks args s → CallOk P f args s fun r _ => r = .ret (.raw (.bool true))) : Calls P f xs W fun e w' => e = .returned (.bool true) ∧ Go.RowKit.Below W.heap.size W w' := by
  obtain ⟨vs, s, pl, o1, o2, o3, o4, o5⟩ := open_argsS (base := base) 0 hk hv hA
  obtain ⟨q1, q2⟩ := o3 (fun i => pl.getD i (0, 0)) (fun i q hq => by
    rw [Nat.zero_add]
    simp [List.getD_eq_getElem?_getD, hq])
  have hown : ∀ (i : Nat) (e : Ent), s[i]? = some e → e.isOwn = false := fun i e he => (o5 e (List.mem_of_getElem? he)).1
  have hr : Rep (fun i => pl.getD i (0, 0)) s W := ⟨fun i e he => by have := q2 i e he; rwa [Nat.zero_add] at this, fun i j e f he hf ho => by rw [hown i e he] at ho; cases ho⟩
  have hs : sbd s := fun i e he => Ent.bd_mono (Nat.zero_le _) (o5 e (List.mem_of_getElem? he)).2
  have := (law vs s o1).below (r := .raw (.bool true)) hr hs (by rwa [Nat.zero_add] at o4) hown trivial
  rw [q1] at this
  simpa [V.abs] using this
end
theorem law_of_callS {C : Checked} {os : Os} {f : FuncId} {fn : Func} {s : ChangeSpec} {conds : List PathCond} {rt : TypeId} {H : Type} {enc : TypeId × Value → H} {aks : List AS}
    (own : ownKnob C.prog.godebug = none) (started : os.Started) (noInit : C.prog.inits.idxOf? f = none) (hfn : C.prog.funcs[f]? = some fn)
    (laidOut : laidOutB C.prog = true) (hread : (fn.params.toList.all fun t => C.prog.readableRec t && decide (t < C.prog.types.size)) = true)
    (hres : fn.resultTypes = #[rt]) (hrt : C.prog.underlying rt = some .bool) (hvars : s.vars = [])
    (hspec : ∀ ds : List (DataW H), ds.length = fn.params.size → s.fn H ds = { results := [.lit (.bool true)], args := ds })
    (witness : ∃ (w : World) (tape : Tape) (i : Input), w.os = os ∧ (w.forCall tape i).Shaped C.prog ∧ i.vars = [] ∧ Input.okWide C.prog (w.forCall tape i) .any w.heap.size f i ∧
      s.pre6 enc C.prog fn conds false (w.forCall tape i).memory i.args ∧ ({} : Assume).holds C.prog (lone (Frame.enter C.prog f i.args .normal) [] (w.forCall tape i)))
    (hk : argKindsS C.prog fn.params.toList = some aks) (law : ∀ args s, argsOkS 0 aks args s → CallOk C.prog f args s fun r _ => r = .ret (.raw (.bool true))) :
    ReturnsInHanded {} C os f .any (s.pre6 enc C.prog fn conds false) (s.post enc C.prog fn false true false false) := by
  refine law_lifted own started noInit hfn laidOut hread hres hrt hvars hspec witness ?_
  intro W base args ds p hval hA hsz
  exact callsS (fun j t v hj hv => hval j t v (by simpa using hj) (by simpa using hv)) hA hk law
end Go.Proofs.YtbjikmepfpkmjaaRL
