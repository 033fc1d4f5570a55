/- RL and the rows of laws: slices of flat elements among the arguments, told by columns. -/
import Derived.Test.YtjoopjhimgdgdaazDecRowsRLRow3
import Derived.Test.YtjoopjhimgdgdaazDecRowsRLT
namespace Go.Proofs.YtjoopjhimgdgdaaRL
open Go
set_option linter.unusedVariables false
set_option linter.unusedSimpArgs false
def colsOkA : List CK → List Col → Nat → Prop
  | [], [], _ => True
  | .int k :: ks, .int k' g :: cs, n => k' = k ∧ (∀ j, j < n → (Lit.int k (g j)).wf = true) ∧ colsOkA ks cs n
  | .bool :: ks, .bool _ :: cs, n => colsOkA ks cs n
  | _, _, _ => False
def argsOkA : Nat → List AS → List V → Sto → Prop
  | _, [], [], s => s = []
  | b, .flat a :: ks, v :: vs, s => argsOk [a] [v] ∧ argsOkA b ks vs s
  | b, .sl cs :: ks, v :: vs, e :: s => ((∃ p cap, v = .raw (.slice p 0 cap) ∧ e = .no) ∨ ∃ n cap cols, 0 < n ∧ v = .sle b cs.length 0 n cap ∧ e = .arr .ro cols n 0 ∧ n ≤ cap ∧ cap ≤ maxLen ∧ colsOkA cs cols n) ∧ argsOkA (b + 1) ks vs s
  | _, _, _, _ => False
def intAt : V → Int
  | .raw (.int _ x) => x
  | _ => 0
def boolAt : V → Bool
  | .raw (.bool x) => x
  | _ => false
def colsFrom (z : Nat) (ws : List V) : List CK → Nat → List Col
  | [], _ => []
  | .int k :: ks, c => .int k (fun j => intAt (ws.getD (j * z + c) (.raw undef))) :: colsFrom z ws ks (c + 1)
  | .bool :: ks, c => .bool (fun j => boolAt (ws.getD (j * z + c) (.raw undef))) :: colsFrom z ws ks (c + 1)
theorem colsFrom_length {z : Nat} {ws : List V} : ∀ {ks : List CK} {c : Nat}, (colsFrom z ws ks c).length = ks.length := by
  intro ks
  induction ks with
  | nil => intro c; rfl
  | cons k ks ih => intro c; cases k <;> simp [colsFrom, ih]
theorem rawsOk_get : ∀ {ks : List CK} {ws : List V}, rawsOk ks ws → ws.length = ks.length ∧ ∀ (i : Nat) k, ks[i]? = some k → ∃ u, ws[i]? = some (.raw u) ∧ k.ok u := by
  intro ks
  induction ks with
  | nil => intro ws h; cases ws with
    | nil => exact ⟨rfl, fun i k h => by simp at h⟩
    | cons w ws => exact h.elim
  | cons k ks ih =>
    intro ws h
    cases ws with
    | nil => exact h.elim
    | cons w ws =>
      cases w <;> try exact h.elim
      rename_i v
      obtain ⟨h1, h2⟩ := h
      obtain ⟨i1, i2⟩ := ih h2
      refine ⟨by simp [i1], fun i q hq => ?_⟩
      cases i with
      | zero => simp at hq; subst hq; exact ⟨v, rfl, h1⟩
      | succ i => simpa using i2 i q (by simpa using hq)
theorem reps_get {l : List CK} : ∀ {n j c : Nat} {k : CK}, j < n → l[c]? = some k → (reps n l)[j * l.length + c]? = some k := by
  intro n
  induction n with
  | zero => intro j c k hj; omega
  | succ n ih =>
    intro j c k hj hc
    rw [reps_succ]
    have hl : (reps n l).length = n * l.length := by simp [reps]
    have hcl := (List.getElem?_eq_some_iff.1 hc).1
    rcases Nat.lt_or_ge j n with h | h
    · have : (j + 1) * l.length ≤ n * l.length := Nat.mul_le_mul_right _ h
      rw [Nat.add_mul, Nat.one_mul] at this
      rw [List.getElem?_append_left (by omega)]
      exact ih h hc
    · obtain rfl : j = n := by omega
      rw [List.getElem?_append_right (by omega), hl, Nat.add_sub_cancel_left]
      exact hc
theorem colsFrom_ok {z n : Nat} {ws : List V} (hz : ∀ (j c : Nat) k, j < n → ∀ (ks : List CK), ks[c]? = some k → True) : ∀ {ks : List CK} {c : Nat}, (∀ (j q : Nat) k, j < n → ks[q]? = some k → ∃ u, ws[j * z + (c + q)]? = some (.raw u) ∧ k.ok u) →
    colsOkA ks (colsFrom z ws ks c) n ∧ ∀ (j q : Nat) col u, j < n → (colsFrom z ws ks c)[q]? = some col → col.at j = some u → ws[j * z + (c + q)]? = some (.raw u) := by
  intro ks
  induction ks with
  | nil => intro c h; exact ⟨trivial, fun j q col u hj hc => by simp [colsFrom] at hc⟩
  | cons k ks ih =>
    intro c h
    obtain ⟨i1, i2⟩ := ih (c := c + 1) fun j q k' hj hq => by
      have := h j (q + 1) k' hj (by simpa using hq)
      rwa [show c + (q + 1) = c + 1 + q by omega] at this
    have h0 : ∀ j, j < n → ∃ u, ws[j * z + c]? = some (.raw u) ∧ k.ok u := fun j hj => by simpa using h j 0 k hj rfl
    have rest : ∀ (q : Nat) (j : Nat) col u, j < n → (colsFrom z ws ks (c + 1))[q]? = some col → col.at j = some u → ws[j * z + (c + (q + 1))]? = some (.raw u) := fun q j col u hj hc hu => by
      have := i2 j q col u hj hc hu
      rwa [show c + 1 + q = c + (q + 1) by omega] at this
    cases k with
    | int ik =>
      refine ⟨⟨rfl, fun j hj => ?_, i1⟩, fun j q col u hj hc hu => ?_⟩
      · obtain ⟨u, hu, x, rfl, hx⟩ := h0 j hj
        show (Lit.int ik (intAt (ws.getD (j * z + c) (.raw undef)))).wf = true
        rw [List.getD_eq_getElem?_getD, hu]; exact hx
      · cases q with
        | zero =>
          simp only [colsFrom, List.getElem?_cons_zero, Option.some.injEq] at hc
          subst hc
          obtain ⟨u', hu', x, rfl, hx⟩ := h0 j hj
          simp only [Col.at, Option.some.injEq] at hu
          subst hu
          rw [Nat.add_zero, List.getD_eq_getElem?_getD, hu']; rfl
        | succ q => exact rest q j col u hj (by simpa [colsFrom] using hc) hu
    | bool =>
      refine ⟨i1, fun j q col u hj hc hu => ?_⟩
      cases q with
      | zero =>
        simp only [colsFrom, List.getElem?_cons_zero, Option.some.injEq] at hc
        subst hc
        obtain ⟨u', hu', x, rfl⟩ := h0 j hj
        simp only [Col.at, Option.some.injEq] at hu
        subst hu
        rw [Nat.add_zero, List.getD_eq_getElem?_getD, hu']; rfl
      | succ q => exact rest q j col u hj (by simpa [colsFrom] using hc) hu
theorem ck_one {k : CK} {u : Value} (h : k.ok u) : u.oneCell' = true := by
  cases k with
  | int k => obtain ⟨n, rfl, _⟩ := h; rfl
  | bool => obtain ⟨b, rfl⟩ := h; rfl
/-- The same places, told otherwise. -/
theorem CallOk.conv {P : Program} {f : FuncId} {args args' : List V} {s s' : Sto} {K : Res → Sto → Prop} (hl : s'.length = s.length) (hr : ∀ ρ w, Rep ρ s w → sbd s → bdL s.length args → Rep ρ s' w ∧ sbd s' ∧ bdL s'.length args' ∧ absL ρ args' = absL ρ args) (ho : s.map Ent.isOwn = s'.map Ent.isOwn)
    (h : CallOk P f args' s' K) : CallOk P f args s K := by
  refine ⟨h.plain, fun ρ w h1 h2 h3 => ?_⟩
  obtain ⟨q1, q2, q3, q4⟩ := hr ρ w h1 h2 h3
  rw [← q4]
  refine (h.run ρ w q1 q2 q3).mono ?_
  rintro e w' ⟨r, s2, ρ', e1, e2, e3, e4, e5, e6⟩
  exact ⟨r, s2, ρ', e1, e2, e3, e4.conv ho.symm rfl, e5, e6⟩
theorem argsA_of : ∀ {ks : List AS} {b : Nat} {args : List V} {s : Sto}, argsOkS b ks args s → ∃ args' s', argsOkA b ks args' s' ∧ s'.length = s.length ∧ s.map Ent.isOwn = s'.map Ent.isOwn ∧ (∀ ρ, absL ρ args' = absL ρ args) ∧ (∀ n, bdL n args → bdL n args') ∧
    (∀ (ρ : Rho) (w : World) (i : Nat), (∀ (j : Nat) e, s[j]? = some e → RepE ρ w (i + j) e) → ∀ (j : Nat) e, s'[j]? = some e → RepE ρ w (i + j) e) ∧ ∀ e ∈ s', e.isOwn = false ∧ e.bd 0 := by
  intro ks
  induction ks with
  | nil =>
    intro b args s h
    cases args with
    | nil => simp only [argsOkS] at h; subst h; exact ⟨[], [], rfl, rfl, rfl, fun _ => rfl, fun _ h => h, fun ρ w i h j e he => by simp at he, fun e he => by cases he⟩
    | cons a args => exact h.elim
  | cons k ks ih =>
    intro b args s h
    cases args with
    | nil => cases k <;> exact h.elim
    | cons v vs =>
      cases k with
      | flat a =>
        obtain ⟨h1, h2⟩ := h
        obtain ⟨args', s', i1, i2, i3, i4, i5, i6, i7⟩ := ih h2
        exact ⟨v :: args', s', ⟨h1, i1⟩, i2, i3, fun ρ => by simp only [absL, i4], fun n hb => ⟨hb.1, i5 n hb.2⟩, i6, i7⟩
      | sl cs =>
        cases s with
        | nil => exact h.elim
        | cons e s =>
          obtain ⟨h1, h2⟩ := h
          obtain ⟨args', s', i1, i2, i3, i4, i5, i6, i7⟩ := ih h2
          rcases h1 with ⟨p, cap, rfl, rfl⟩ | ⟨n, cap, ws, hn, rfl, rfl, hcap, hmx, hraw⟩
          · refine ⟨.raw (.slice p 0 cap) :: args', .no :: s', ⟨.inl ⟨p, cap, rfl, rfl⟩, i1⟩, by simp [i2], by simp [i3], fun ρ => by simp only [absL, i4], fun n hb => ⟨trivial, i5 n hb.2⟩, fun ρ w i h j e he => ?_, fun e he => ?_⟩
            · cases j with
              | zero => simp at he; subst he; trivial
              | succ j =>
                have := i6 ρ w (i + 1) (fun j e he => by have := h (j + 1) e (by simpa using he); rwa [show i + (j + 1) = i + 1 + j by omega] at this) j e (by simpa using he)
                rwa [show i + (j + 1) = i + 1 + j by omega]
            · rcases List.mem_cons.1 he with rfl | he
              · exact ⟨rfl, trivial⟩
              · exact i7 e he
          · obtain ⟨g1, g2⟩ := rawsOk_get hraw
            have gl : (reps n cs).length = n * cs.length := by simp [reps]
            obtain ⟨c1, c2⟩ := colsFrom_ok (z := cs.length) (n := n) (ws := ws) (fun _ _ _ _ _ _ => trivial) (ks := cs) (c := 0) fun j q k hj hq => by
              obtain ⟨u, hu, hk⟩ := g2 _ _ (reps_get hj hq)
              exact ⟨u, by rw [Nat.zero_add]; exact hu, hk⟩
            refine ⟨.sle b cs.length 0 n cap :: args', .arr .ro (colsFrom cs.length ws cs 0) n 0 :: s', ⟨.inr ⟨n, cap, _, hn, rfl, rfl, hcap, hmx, c1⟩, i1⟩, by simp [i2], by simp [i3, Ent.isOwn], fun ρ => by simp only [absL, i4, V.abs]; simp, fun n hb => ⟨hb.1, i5 n hb.2⟩, fun ρ w i h j e he => ?_, fun e he => ?_⟩
            · cases j with
              | zero =>
                simp at he; subst he
                have h0 := h 0 _ rfl
                have hall : ∀ v ∈ ws, ∃ u : Value, v = .raw u ∧ u.oneCell' = true := by
                  intro v hv
                  obtain ⟨q, hq, hqv⟩ := List.mem_iff_getElem.1 hv
                  have hk : q < (reps n cs).length := by omega
                  obtain ⟨u, hu, huk⟩ := g2 q _ (List.getElem?_eq_getElem hk)
                  rw [List.getElem?_eq_getElem hq, hqv] at hu
                  exact ⟨u, Option.some.inj hu, ck_one huk⟩
                refine ⟨absL ρ ws, by rw [absL_length, colsFrom_length, g1, gl], fun u hu => ?_, fun j c col u hj hc hu => ?_, h0.1, fun j v hj => ?_⟩
                · rw [absL_map] at hu
                  obtain ⟨v, hv, rfl⟩ := List.mem_map.1 hu
                  obtain ⟨u, rfl, hu2⟩ := hall v hv
                  exact hu2
                · have := c2 j c col u hj hc hu
                  rw [Nat.zero_add] at this
                  rw [colsFrom_length, absL_get, this]; rfl
                · rw [absL_get] at hj
                  obtain ⟨u, hu, rfl⟩ := Option.map_eq_some_iff.1 hj
                  exact h0.2 j u hu
              | succ j =>
                have := i6 ρ w (i + 1) (fun j e he => by have := h (j + 1) e (by simpa using he); rwa [show i + (j + 1) = i + 1 + j by omega] at this) j e (by simpa using he)
                rwa [show i + (j + 1) = i + 1 + j by omega]
            · rcases List.mem_cons.1 he with rfl | he
              · exact ⟨rfl, trivial⟩
              · exact i7 e he
/-- A law's call, its slices told by columns. -/
theorem law_viaA {P : Program} {f : FuncId} {aks : List AS} {K : Res → Sto → Prop} (h : ∀ args s, argsOkA 0 aks args s → CallOk P f args s K) (args : List V) (s : Sto) (ha : argsOkS 0 aks args s) : CallOk P f args s K := by
  obtain ⟨args', s', h1, h2, h3, h4, h5, h6, h7⟩ := argsA_of ha
  refine (h args' s' h1).conv h2 (fun ρ w hr hs hb => ⟨⟨fun i e he => ?_, fun i j e f he hf ho => ?_⟩, fun i e he => ?_, ?_, h4 ρ⟩) h3
  · have := h6 ρ w 0 (fun j e he => by rw [Nat.zero_add]; exact hr.ent j e he) i e he
    rwa [Nat.zero_add] at this
  · rw [(h7 e (List.mem_of_getElem? he)).1] at ho; cases ho
  · exact Ent.bd_mono (Nat.zero_le _) (h7 e (List.mem_of_getElem? he)).2
  · rw [h2]; exact h5 _ hb
theorem argsOkA_nil {b : Nat} {args : List V} {s : Sto} (h : argsOkA b [] args s) : args = [] ∧ s = [] := by
  cases args with
  | nil => exact ⟨rfl, h⟩
  | cons a args => exact h.elim
theorem argsOkA_flat {b : Nat} {a : AK} {ks : List AS} {args : List V} {s : Sto} (h : argsOkA b (.flat a :: ks) args s) : ∃ v vs, args = v :: vs ∧ argsOk [a] [v] ∧ argsOkA b ks vs s := by
  cases args with
  | nil => exact h.elim
  | cons v vs => exact ⟨v, vs, rfl, h.1, h.2⟩
theorem argsOkA_sl {b : Nat} {cs : List CK} {ks : List AS} {args : List V} {s : Sto} (h : argsOkA b (.sl cs :: ks) args s) :
    (∃ p cap vs s', args = .raw (.slice p 0 cap) :: vs ∧ s = .no :: s' ∧ argsOkA (b + 1) ks vs s') ∨ ∃ n cap cols vs s', 0 < n ∧ args = .sle b cs.length 0 n cap :: vs ∧ s = .arr .ro cols n 0 :: s' ∧ n ≤ cap ∧ cap ≤ maxLen ∧ colsOkA cs cols n ∧ argsOkA (b + 1) ks vs s' := by
  cases args with
  | nil => exact h.elim
  | cons v vs =>
    cases s with
    | nil => exact h.elim
    | cons e s =>
      obtain ⟨h1, h2⟩ := h
      rcases h1 with ⟨p, cap, rfl, rfl⟩ | ⟨n, cap, cols, hn, rfl, rfl, hcap, hmx, hc⟩
      · exact .inl ⟨p, cap, vs, s, rfl, rfl, h2⟩
      · exact .inr ⟨n, cap, cols, vs, s, hn, rfl, rfl, hcap, hmx, hc, h2⟩
theorem colsOkA_nil {cols : List Col} {n : Nat} (h : colsOkA [] cols n) : cols = [] := by
  cases cols with
  | nil => rfl
  | cons c cols => exact h.elim
theorem colsOkA_int {k : IntKind} {ks : List CK} {cols : List Col} {n : Nat} (h : colsOkA (.int k :: ks) cols n) : ∃ g cs, cols = .int k g :: cs ∧ (∀ j, j < n → (Lit.int k (g j)).wf = true) ∧ colsOkA ks cs n := by
  cases cols with
  | nil => exact h.elim
  | cons c cols =>
    cases c <;> try exact h.elim
    obtain ⟨rfl, h1, h2⟩ := h
    exact ⟨_, _, rfl, h1, h2⟩
end Go.Proofs.YtjoopjhimgdgdaaRL
