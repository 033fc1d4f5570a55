/- RL, thirteenth text: a law's function, computed; what is known of a function at no store at all holds at every store. -/
import Derived.Test.YtolohpkjpgbahaazSemRegsRL12
namespace Go.Proofs.YtolohpkjpgbahaaRL
open Go
set_option linter.unusedVariables false
set_option linter.unusedSimpArgs false
def topC {R : Type} (no : R) (D : Dh) : Ch R := fun f args s K => match D f args s with
  | some (r, s') => K r s'
  | none => no
def topL {R : Type} (no : R) (P : Program) (C : Ch R) (Q : Qh) (n : Nat) : Lh R :=
  Nat.rec (fun _ _ _ => no) (fun _ L c st K => match c with
    | .loop b => Ev no P C L b st fun e st' => match e with
      | .normal => L (.loop b) st' K
      | e => K e st'
    | .region _ ops true => match st with
      | ⟨n, e, s⟩ => drwT no P C Q ops.toList K n e s
    | _ => no) n
def lawR {R : Type} (no : R) (P : Program) (D : Dh) (n : Nat) (f : FuncId) (args : List V) (s : Sto) (K : Res → Sto → R) : R :=
  match P.funcs[f]? with
  | some fn => match fn.body with
    | some c => match Nat.ble args.length fn.ntmps with
      | true => Ev no P (topC no D) (topL no P (topC no D) (qOf D) n) c ⟨fn.ntmps, zipArgs 0 args, s⟩ (bodyK no P fn K)
      | false => no
    | none => no
  | none => no
theorem topC_sound {P : Program} {D : Dh} (hD : DOk P D) {R : Type} {no : R} {T : R → Prop} (hno : ¬ T no) {f : FuncId} {args : List V} {s : Sto} {K : Res → Sto → R} (h : T (topC no D f args s K)) : CallOk P f args s fun r s => T (K r s) := by
  unfold topC at h
  split at h
  · rename_i r s' hd
    exact (hD _ _ _ _ _ hd).mono fun r2 s2 h2 => by obtain ⟨rfl, rfl⟩ := h2; exact h
  · exact (hno h).elim
theorem topL_sound {P : Program} {D : Dh} (hD : DOk P D) (hm : P.follows .mixedOrders = true) {R : Type} {no : R} {T : R → Prop} (hno : ¬ T no) : ∀ (n : Nat) (c : Code) (st : St) (K : Ex → St → R), T (topL no P (topC no D) (qOf D) n c st K) → Lu P c st fun e s => T (K e s) := by
  intro n
  induction n with
  | zero => intro c st K h; exact (hno h).elim
  | succ n ih =>
    intro c st K h
    have hev : ∀ c st K, T (Ev no P (topC no D) (topL no P (topC no D) (qOf D) n) c st K) → CodeOk P c st fun e s => T (K e s) := fun c st K h =>
      Ev.sound hno (fun _ _ _ _ h => topC_sound hD hno h) (fun c st K h => Lu.sound c st _ (ih c st K h)) c st K h
    cases c with
    | loop b =>
      refine LoopOk.next ?_
      have := hev _ _ _ (show T (Ev no P (topC no D) (topL no P (topC no D) (qOf D) n) b st fun e st' => match e with | .normal => topL no P (topC no D) (qOf D) n (.loop b) st' K | e => K e st') from h)
      refine ⟨fun ρ a w hs => wp_mono (this.run ρ a w hs) ?_⟩
      rintro e a' w' ⟨x, st', ρ', h1, h2, h3, h4⟩
      refine ⟨x, st', ρ', h1, ?_, h3, h4⟩
      cases x
      · have h4 : LoopOk P b st' fun e s => T (K e s) := ih (.loop b) st' K h2
        exact h4
      all_goals exact h2
    | region id ops draw =>
      cases draw with
      | false => exact (hno h).elim
      | true =>
        obtain ⟨sn, se, ss⟩ := st
        exact drw_sound hno (st := ⟨sn, se, ss⟩) (fun _ _ _ _ h => topC_sound hD hno h) (qOf_ok hD) hm h
    | _ => exact (hno h).elim
theorem lawR_sound {P : Program} {D : Dh} (hD : DOk P D) (hn : namesOk P = true) (hm : P.follows .mixedOrders = true) {R : Type} {no : R} {T : R → Prop} (hno : ¬ T no) {n : Nat} {f : FuncId} {args : List V} {s : Sto} {K : Res → Sto → R} (h : T (lawR no P D n f args s K)) : CallOk P f args s fun r s => T (K r s) := by
  unfold lawR at h
  split at h
  · rename_i fn hf
    split at h
    · rename_i c hc
      split at h
      · rename_i hl
        exact CallOk.of_code hno hf (names_at hn hf) hc hl (Ev.sound hno (fun _ _ _ _ h => topC_sound hD hno h) (fun c st K h => Lu.sound c st _ (topL_sound hD hm hno n c st K h)) _ _ _ h)
      · exact (hno h).elim
    · exact (hno h).elim
  · exact (hno h).elim
def resB : Res → Sto → Bool := fun r _ => match r with
  | .ret (.raw (.bool b)) => b
  | _ => false
/-- A law's function tells true. -/
def lawB (P : Program) (D : Dh) (n : Nat) (f : FuncId) (args : List V) (s : Sto) : Bool := lawR false P D n f args s resB
theorem lawB_sound {P : Program} {D : Dh} (hD : DOk P D) (hn : namesOk P = true) (hm : P.follows .mixedOrders = true) {n : Nat} {f : FuncId} {args : List V} {s : Sto} (h : lawB P D n f args s = true) : CallOk P f args s fun r _ => r = .ret (.raw (.bool true)) :=
  (lawR_sound (T := fun b : Bool => b = true) hD hn hm (by simp) h).mono fun r s h => by
    unfold resB at h
    split at h
    · subst h; rfl
    · cases h
/-- What asks nothing of the store asks nothing of any. -/
theorem CallOk.anywhere {P : Program} {f : FuncId} {args : List V} {s : Sto} {v : V} (h : CallOk P f args [] fun r _ => r = .ret v) (ha : bdL 0 args) (hv : v.bd 0) : CallOk P f args s fun r s' => r = .ret v ∧ s' = s := by
  refine ⟨h.plain, fun ρ w h1 h2 h3 => (h.run ρ w ⟨fun i e he => (by simp at he), fun i j e f he => (by simp at he)⟩ (fun i e he => (by simp at he)) ha).mono ?_⟩
  rintro e w' ⟨r, s', ρ', rfl, rfl, r1, r2, r3, r4⟩
  have hblk : ∀ b, b < w.heap.size → w'.heap[b]? = w.heap[b]? := fun b hb => r2.block b hb fun i e hi => by simp at hi
  refine ⟨.ret v, s, ρ, ?_, ⟨rfl, rfl⟩, ⟨fun i e hi => ?_, h1.sep⟩, ⟨Nat.le_refl _, fun _ _ => rfl, fun i e h ho => .inl ⟨e, h, ho⟩, r2.os, r2.tape, r2.output, r2.size, fun b hb _ => hblk b hb⟩, h2, V.bd_mono (Nat.zero_le _) v hv⟩
  · simp only [Res.ending]
    rw [V.abs_congr (n := 0) (fun i hi => absurd hi (by omega)) v hv]
  · have hr := h1.ent i e hi
    cases hl : e.live with
    | true => exact RepE.congr (n := s.length) (fun _ _ => rfl) (List.getElem?_eq_some_iff.1 hi).1 (h2 i e hi) (hblk _ (hr.lt hl)) r2.size hr
    | false => cases e <;> simp_all [Ent.live, RepE]
/-- What a law's row wants, of arguments without places. -/
theorem CallOk.row {P : Program} {f : FuncId} {args : List V} {xs : Array Value} (h : CallOk P f args [] fun r _ => r = .ret (.raw (.bool true))) (ha : bdL 0 args) (hx : absL (fun _ => (0, 0)) args = xs.toList) (W : World) :
    Calls P f xs W fun e w' => e = .returned (.bool true) ∧ Go.RowKit.Below W.heap.size W w' := by
  have := h.below (ρ := fun _ => (0, 0)) (w := W) (r := .raw (.bool true)) ⟨fun i e he => (by simp at he), fun i j e f he => (by simp at he)⟩ (fun i e he => (by simp at he)) ha (fun i e he => (by simp at he)) trivial
  rw [hx] at this
  exact this
end Go.Proofs.YtolohpkjpgbahaaRL
