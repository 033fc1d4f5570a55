/- Parts of the proof, one behind the other. -/
import Derived.Test.YtalgegmcllcnmaazLabJumpsRLF
import Derived.RangeFuncRecord
import Derived.RangeFuncNested
section
/- RL: ranges over functions: a round; the statement. -/
namespace Go.Proofs.YtalgegmcllcnmaaRL
open Go
set_option linter.unusedVariables false
set_option linter.unusedSimpArgs false
variable {Δ : List Deferred}
/-- A round's values, put into the frame. -/
def zipPs (n : Nat) : List Tmp → List V → List (Nat × V) → List (Nat × V)
  | t :: ts, v :: vs, e => zipPs n ts vs (putT n e (some t) v)
  | _, _, e => e
/-- A round of the loop whose record is i's: hidden while it runs. -/
def rnd {R : Type} (no : R) (P : Program) (C : Ch R) (L : Lh R) (i : Nat) (args : List V) (s : Sto) (K : Res → Sto → R) : R :=
  match s[i]? with
  | some (.lp e n ps asg body none) => match Nat.beq args.length ps.size with
    | true => fl (zipPs n ps.toList args e) fun e1 => flA (s.set i .no) fun s1 => Ev no P C L asg ⟨n, e1, s1⟩ fun x st1 => match x with
      | .normal => Ev no P C L body st1 fun x st2 => match x with
        | .normal => flA (st2.s.set i (.lp e n ps asg body none)) fun s3 => K (.ret (.raw (.bool true))) s3
        | .ret => flA (st2.s.set i (.lp e n ps asg body (some .ret))) fun s3 => K (.ret (.raw (.bool false))) s3
        | .exit id => flA (st2.s.set i (.lp e n ps asg body (some (.exit id)))) fun s3 => K (.ret (.raw (.bool false))) s3
        | .goto l => flA (st2.s.set i (.lp e n ps asg body (some (.goto l)))) fun s3 => K (.ret (.raw (.bool false))) s3
        | .panic _ => no
      | _ => no
    | false => no
  | _ => no
/-- The statement: the record is laid; the function is called with the loop's yield; the jump that a round has left. -/
def rfL {R : Type} (no : R) (P : Program) (C : Ch R) (g : Operand) (ps : Array Tmp) (asg body : Code) (n : Nat) (e : List (Nat × V)) (s : Sto) (K : Ex → St → R) : R :=
  Wi no (getT e g) fun fv => match fv.nf with
  | .fn (.func f) first cap => match Nat.blt f P.funcs.size with
    | true => flA (s ++ [.lp e n ps asg body none]) fun s1 => C f (first ++ [.yld s.length] ++ cap) s1 fun r s2 => match r with
      | .ret _ => match s2[s.length]? with
        | some (.lp _ _ _ _ _ pend) => flA (s2.set s.length .no) fun s3 => match pend with
          | none => K .normal ⟨n, e, s3⟩
          | some .ret => K .ret ⟨n, e, s3⟩
          | some (.exit id) => K (.exit id) ⟨n, e, s3⟩
          | some (.goto l) => K (.goto l) ⟨n, e, s3⟩
          | _ => no
        | _ => no
      | .pan _ => no
    | false => no
  | _ => no
section
variable {P : Program} {ρ : Rho} {w : World} {s : Sto}
theorem sim_zip {n : Nat} : ∀ (ts : List Tmp) (vs : List V) (e : List (Nat × V)) (a : Act), Sim Δ ρ ⟨n, e, s⟩ a w → bdL s.length vs → Sim Δ ρ ⟨n, zipPs n ts vs e, s⟩ { a with tmps := (ts.zip (absL ρ vs)).foldl (fun tmps x => tmps.setIfInBounds x.1 x.2) a.tmps } w := by
  intro ts
  induction ts with
  | nil => intro vs e a h _; exact h
  | cons t ts ih =>
    intro vs e a h hb
    cases vs with
    | nil => exact h
    | cons v vs => exact ih vs _ _ (h.put (dst := some t) h.rep h.sb (Ext.refl _ _ _) hb.1) hb.2
/-- Whatever is live lies elsewhere than a loop's record that is none of the store's. -/
theorem live_ne {l : Nat} {o : Loop} (hr : Rep ρ s w) (hl : w.heap[l]? = some (.loop o)) (ha : ∀ (i : Nat) (e : Ent), s[i]? = some e → e.isOwn = true → (ρ i).1 ≠ l) (i : Nat) (e : Ent) (he : s[i]? = some e) (hlv : e.live = true) : (ρ i).1 ≠ l := by
  cases e with
  | ro cs =>
    obtain ⟨⟨a, t, x, h1⟩, _⟩ := hr.ent i _ he
    intro hh
    rw [hh, hl] at h1; cases h1
  | no => cases hlv
  | own => exact ha i _ he rfl
  | map => exact ha i _ he rfl
  | lst => exact ha i _ he rfl
  | arr m cols n t =>
    cases m with
    | ro =>
      obtain ⟨cs, _, _, _, ⟨⟨a, t, x, h1⟩, _⟩⟩ := hr.ent i _ he
      intro hh
      rw [hh, hl] at h1; cases h1
    | own => exact ha i _ he rfl
    | grow k => exact ha i _ he rfl
  | lp => exact ha i _ he rfl
theorem Rep.put {l : Nat} {o : Loop} {o' : Obj} (hr : Rep ρ s w) (hs : sbd s) (hl : w.heap[l]? = some (.loop o)) (ha : ∀ (i : Nat) (e : Ent), s[i]? = some e → e.isOwn = true → (ρ i).1 ≠ l) : Rep ρ s (w.putObj l o') := by
  refine ⟨fun i e he => ?_, hr.sep⟩
  cases hlv : e.live with
  | false => cases e <;> simp_all [Ent.live, RepE]
  | true =>
    have hne := live_ne hr hl ha i e he hlv
    exact RepE.congr (n := s.length) (fun _ _ => rfl) (List.getElem?_eq_some_iff.1 he).1 (hs i e he) (World.putObj_heap_other hne) (by simp) (hr.ent i e he)
theorem Fo.put {r : Option Nat} {B l : Nat} {o o' : Loop} (h : Fo r B Δ ρ s w) (hl : w.heap[l]? = some (.loop o)) : Fo r B Δ ρ s (w.putObj l (.loop o')) := by
  have hlt : l < w.heap.size := (Array.getElem?_eq_some_iff.1 hl).1
  have hself : (w.putObj l (.loop o')).heap[l]? = some (.loop o') := by simp [World.putObj, hlt]
  refine ⟨by simpa using h.le, ?_, fun l' hl' => ?_⟩
  · obtain ⟨ms, h1, h2, h3⟩ := h.marks
    refine ⟨ms, h1, h2, fun b hb => ?_⟩
    obtain ⟨k1, k2, k3⟩ := h3 b hb
    refine ⟨k1, ?_, k3⟩
    rw [World.putObj_heap_other (fun e => by rw [e, hl] at k2; cases k2)]
    exact k2
  · obtain ⟨rc, k1, k2⟩ := h.round l' hl'
    by_cases hh : l' = l
    · subst hh; exact ⟨o', hself, k2⟩
    · exact ⟨rc, by rw [World.putObj_heap_other hh]; exact k1, k2⟩
variable {R : Type} {no : R} {T : R → Prop} (hno : ¬ T no)
include hno
theorem rnd_sound {C : Ch R} {L : Lh R} (hEv : ∀ c st K, T (Ev no P C L c st K) → CodeOk P c st fun e s => T (K e s)) {i : Nat} {args : List V} {s : Sto} {K : Res → Sto → R} (h : T (rnd no P C L i args s K)) : YldOk P i args s fun r s => T (K r s) := by
  unfold rnd at h
  split at h
  case h_2 => exact (hno h).elim
  rename_i e n ps asg body hsi
  split at h
  case h_2 => exact (hno h).elim
  rename_i hlen
  have hlen := Nat.eq_of_beq_eq_true hlen
  simp only [fl_eq, flA_eq] at h
  intro ρ w hr hsb hbd
  obtain ⟨rc, l1, l2, l3, l4, l5, l6, l7, l8⟩ := hr.ent i _ hsi
  have hil : i < s.length := (List.getElem?_eq_some_iff.1 hsi).1
  refine ⟨rc, l1, by rw [l4]; exact hlen, ?_⟩
  generalize hl : (ρ i).1 = l at l1
  have hllt : l < w.heap.size := (Array.getElem?_eq_some_iff.1 l1).1
  obtain ⟨f1, f2, f3⟩ := hr.forget hsb i
  have slen : (s.set i Ent.no).length = s.length := by simp
  have away0 : ∀ (j : Nat) (ej : Ent), (s.set i .no)[j]? = some ej → ej.isOwn = true → (ρ j).1 ≠ l := by
    intro j ej hj ho
    by_cases hij : j = i
    · subst hij
      rw [List.getElem?_set_self (by simpa using hil)] at hj
      obtain rfl := Option.some.inj hj
      cases ho
    · rw [List.getElem?_set_ne (fun e => hij e.symm)] at hj
      rw [← hl]
      exact fun hh => hr.sep i j _ ej hsi hj rfl (Ent.own_live ho) (fun e => hij e.symm) hh.symm
  have sim0 : Sim [] ρ ⟨n, e, s.set i .no⟩ { tmps := rc.tmps, defers := [] } w := ⟨rfl, l7, l8, fun t v hv => by rw [slen]; exact hsb i _ hsi t v hv, f1, f3⟩
  have sim1 := sim_zip ps.toList args e _ sim0 (by rw [slen]; exact hbd)
  have fo0 : Fo (some l) 0 [] ρ (s.set i .no) w := ⟨Nat.zero_le _, ⟨[], rfl, List.nodup_nil, fun b hb => by cases hb⟩, fun l' hl' => by cases hl'; exact ⟨rc, l1, away0⟩⟩
  have htm : (rc.params.zip (absL ρ args).toArray).foldl (fun tmps x => tmps.setIfInBounds x.1 x.2) rc.tmps = (ps.toList.zip (absL ρ args)).foldl (fun tmps x => tmps.setIfInBounds x.1 x.2) rc.tmps := by
    rw [← Array.foldl_toList, Array.toList_zip, l4]
  rw [htm, l5, l6]
  refine roundIn_of_wpIn (F := Fr none) (n := 0) trivial ?_
  refine wpIn_mono ((hEv _ _ _ h).run (some l) 0 [] ρ _ w sim1 fo0) ?_
  rintro x a1 w1 ⟨x1, st1, ρ1, Δ1, r1, hk1, simA, ext1, fo1⟩
  cases x1 <;> cases x <;> simp only [Ex.rel] at r1 <;> first | exact r1.elim | exact (hno hk1).elim | skip
  obtain ⟨hb1, away1⟩ := ext1.away hllt away0
  have l1' : w1.heap[l]? = some (.loop rc) := by rw [hb1]; exact l1
  have hst : rc.state = .ready := l2
  refine ⟨_, run_beginRound l1' hst, ?_⟩
  have hl1lt : l < w1.heap.size := (Array.getElem?_eq_some_iff.1 l1').1
  have l2' : (w1.putObj l (.loop { rc with state := .busy })).heap[l]? = some (.loop { rc with state := .busy }) := by simp [World.putObj, hl1lt]
  have repB := simA.rep.put (o' := .loop { rc with state := .busy }) simA.sb l1' away1
  have simB : Sim Δ1 ρ1 st1 a1 (w1.putObj l (.loop { rc with state := .busy })) := ⟨simA.defers, simA.size, simA.tmps, simA.bd, repB, simA.sb⟩
  have foB := fo1.put (o' := { rc with state := .busy }) l1'
  refine wpIn_mono ((hEv _ _ _ hk1).run (some l) 0 Δ1 ρ1 a1 _ simB foB) ?_
  rintro x a2 w3 ⟨x2, st2, ρ2, Δ2, r2, hk2, simC, ext2, fo3⟩
  obtain ⟨hb3, away3⟩ := ext2.away (by simpa using hl1lt) away1
  have l3' : w3.heap[l]? = some (.loop { rc with state := .busy }) := by rw [hb3]; exact l2'
  have hl3lt : l < w3.heap.size := (Array.getElem?_eq_some_iff.1 l3').1
  have hi1 : ρ1 i = ρ i := ext1.same i (by rw [slen]; exact hil)
  have hlen1 : s.length ≤ st1.s.length := by have := ext1.len; rwa [slen] at this
  have hi2 : ρ2 i = ρ i := by rw [ext2.same i (by omega), hi1]
  have hlen2 : s.length ≤ st2.s.length := Nat.le_trans hlen1 ext2.len
  have hρ : ∀ k, k < s.length → ρ2 k = ρ k := fun k hk => by rw [ext2.same k (by omega), ext1.same k (by rw [slen]; exact hk)]
  have fin : ∀ jump : Option Code, Rep ρ2 (st2.s.set i (.lp e n ps asg body jump)) (w3.putObj l (.loop { rc with state := if jump.isNone then .ready else .done, pending := jump })) ∧ Ext s ρ w (st2.s.set i (.lp e n ps asg body jump)) ρ2 (w3.putObj l (.loop { rc with state := if jump.isNone then .ready else .done, pending := jump })) ∧ sbd (st2.s.set i (.lp e n ps asg body jump)) := by
    intro jump
    have get : ∀ (j : Nat) (f : Ent), (st2.s.set i (.lp e n ps asg body jump))[j]? = some f → (j = i ∧ f = .lp e n ps asg body jump) ∨ (j ≠ i ∧ st2.s[j]? = some f) := by
      intro j f hf
      by_cases hij : j = i
      · subst hij
        rw [List.getElem?_set_self (by omega)] at hf
        exact .inl ⟨rfl, (Option.some.inj hf).symm⟩
      · rw [List.getElem?_set_ne (fun e => hij e.symm)] at hf
        exact .inr ⟨hij, hf⟩
    have repC := simC.rep.put (o' := .loop { rc with state := if jump.isNone then .ready else .done, pending := jump }) simC.sb l3' away3
    have lne := live_ne simC.rep l3' away3
    have hbl : (ρ2 i).1 = l := by rw [hi2, hl]
    refine ⟨⟨fun j f hf => ?_, fun j k f g hf hg ho hlv hjk => ?_⟩, ⟨by simpa using hlen2, hρ, fun j f hf ho => ?_, ?_, ?_, ?_, ?_, fun b hb hn => ?_⟩, fun j f hf => ?_⟩
    · rcases get j f hf with ⟨rfl, rfl⟩ | ⟨hij, hf⟩
      · refine ⟨{ rc with state := if jump.isNone then .ready else .done, pending := jump }, by rw [hbl]; simp [World.putObj, hl3lt], ?_, rfl, l4, l5, l6, l7, fun t v hv => ?_⟩
        · cases jump <;> simp
        · rw [V.abs_congr hρ v (hsb j _ hsi t v hv)]
          exact l8 t v hv
      · exact repC.ent j f hf
    · rcases get j f hf with ⟨h1, h2⟩ | ⟨hij, hf'⟩ <;> rcases get k g hg with ⟨h3, h4⟩ | ⟨hik, hg'⟩
      · exact absurd (h1.trans h3.symm) hjk
      · rw [h1, hbl]; exact fun hh => lne k g hg' hlv hh.symm
      · rw [h3, hbl]; exact lne j f hf' (Ent.own_live ho)
      · exact simC.rep.sep j k f g hf' hg' ho hlv hjk
    · rcases get j f hf with ⟨rfl, rfl⟩ | ⟨hij, hf⟩
      · exact .inl ⟨j, _, hsi, rfl, by rw [hi2]⟩
      · rcases ext2.own j f hf ho with ⟨k, g, k1, k2, k3⟩ | k1
        · rcases ext1.own k g k1 k2 with ⟨k', g', q1, q2, q3⟩ | q1
          · refine .inl ⟨k', g', ?_, q2, q3.trans k3⟩
            by_cases hki : k' = i
            · subst hki
              rw [List.getElem?_set_self (by simpa using hil)] at q1
              obtain rfl := Option.some.inj q1
              cases q2
            · rwa [List.getElem?_set_ne (fun e => hki e.symm)] at q1
          · exact .inr (by rw [← k3]; exact q1)
        · refine .inr (Nat.le_trans ext1.size ?_)
          simpa using k1
    · exact ext2.os.trans ext1.os
    · exact ext2.tape.trans ext1.tape
    · exact ext2.output.trans ext1.output
    · have := ext2.size
      simp only [World.putObj_size] at this ⊢
      exact Nat.le_trans ext1.size this
    · have hbl' : b ≠ l := fun hh => hn i _ hsi rfl (by rw [hl, hh])
      have hn1 : ∀ (j : Nat) (ej : Ent), (s.set i .no)[j]? = some ej → ej.isOwn = true → (ρ j).1 ≠ b := by
        intro j ej hj ho
        by_cases hij : j = i
        · subst hij
          rw [List.getElem?_set_self (by simpa using hil)] at hj
          obtain rfl := Option.some.inj hj
          cases ho
        · rw [List.getElem?_set_ne (fun e => hij e.symm)] at hj
          exact hn j ej hj ho
      obtain ⟨q1, q2⟩ := ext1.away hb hn1
      have hb1' : b < (w1.putObj l (.loop { rc with state := .busy })).heap.size := by simp only [World.putObj_size]; exact Nat.lt_of_lt_of_le hb ext1.size
      obtain ⟨q3, _⟩ := ext2.away hb1' q2
      rw [World.putObj_heap_other hbl', q3, World.putObj_heap_other hbl', q1]
    · rw [show (st2.s.set i (Ent.lp e n ps asg body jump)).length = st2.s.length by simp]
      rcases get j f hf with ⟨rfl, rfl⟩ | ⟨hij, hf⟩
      · exact fun t v hv => V.bd_mono hlen2 v (hsb j _ hsi t v hv)
      · exact simC.sb j f hf
  cases x2 <;> cases x <;> simp only [Ex.rel] at r2 <;> first | exact r2.elim | exact (hno hk2).elim | skip
  · obtain ⟨q1, q2, q3⟩ := fin none
    exact ⟨_, _, run_endRound none l3', .ret (.raw (.bool true)), _, ρ2, rfl, hk2, q1, q2, q3, trivial⟩
  · subst r2
    obtain ⟨q1, q2, q3⟩ := fin (some (.exit _))
    exact ⟨_, _, run_endRound (some (.exit _)) l3', .ret (.raw (.bool false)), _, ρ2, rfl, hk2, q1, q2, q3, trivial⟩
  · subst r2
    obtain ⟨q1, q2, q3⟩ := fin (some (.goto _))
    exact ⟨_, _, run_endRound (some (.goto _)) l3', .ret (.raw (.bool false)), _, ρ2, rfl, hk2, q1, q2, q3, trivial⟩
  · obtain ⟨q1, q2, q3⟩ := fin (some .ret)
    exact ⟨_, _, run_endRound (some .ret) l3', .ret (.raw (.bool false)), _, ρ2, rfl, hk2, q1, q2, q3, trivial⟩
omit hno
theorem Rep.same {ρ : Rho} {s : Sto} {w w' : World} (hr : Rep ρ s w) (hs : sbd s) (h : Same w w') : Rep ρ s w' := by
  refine ⟨fun i e he => ?_, hr.sep⟩
  cases hlv : e.live with
  | false => cases e <;> simp_all [Ent.live, RepE]
  | true => exact RepE.congr (n := s.length) (fun _ _ => rfl) (List.getElem?_eq_some_iff.1 he).1 (hs i e he) (h.block _ ((hr.ent i e he).lt hlv)) h.size (hr.ent i e he)
theorem Same.alloc (w : World) (o : Obj) : Same w (w.alloc o) := ⟨rfl, rfl, rfl, by simp, fun b hb => Go.RowKit.Below.heap_alloc _ _ _ hb⟩
theorem Same.ext {ρ : Rho} {s : Sto} {w w' : World} (h : Same w w') : Ext s ρ w s ρ w' := ⟨Nat.le_refl _, fun _ _ => rfl, fun i e he ho => .inl ⟨i, e, he, ho, rfl⟩, h.os, h.tape, h.output, h.size, fun b hb _ => h.block b hb⟩
/-- The statement is entered. -/
theorem enter_loop {r : Option Nat} {B : Nat} {ρ : Rho} {s : Sto} {w : World} (hf : Fo r B Δ ρ s w) (fn : FuncId) (tmps : Array Value) (ps : Array Tmp) (asg body : Code) :
    ∃ (wB : World) (ms : List Nat) (rc : Loop), (Instr.enterLoop fn tmps ps asg body r).run P w = .ok (wB.heap.size, ms.map markD) (wB.alloc (.loop rc)) ∧ Same w wB ∧ ms.Nodup ∧ (∀ b ∈ ms, w.heap.size ≤ b ∧ wB.heap[b]? = some (.deferred (some []))) ∧
      rc.state = .ready ∧ rc.pending = none ∧ rc.tmps = tmps ∧ rc.params = ps ∧ rc.assign = asg ∧ rc.body = body := by
  cases r with
  | none =>
    refine ⟨w.alloc (.deferred (some [])), [w.heap.size], { state := .ready, pending := none, fn := fn, tmps := tmps, params := ps, assign := asg, body := body, defers := w.heap.size }, ?_, Same.alloc _ _, by simp, fun b hb => ?_, rfl, rfl, rfl, rfl, rfl, rfl⟩
    · rw [run_enterLoop_outer]
      simp [markD, World.size_alloc]
    · obtain rfl : b = w.heap.size := by simpa using hb
      exact ⟨Nat.le_refl _, World.alloc_heap_new _ _⟩
  | some l0 =>
    obtain ⟨rc0, h1, _⟩ := hf.round l0 rfl
    exact ⟨w, [], { state := .ready, pending := none, fn := fn, tmps := tmps, params := ps, assign := asg, body := body, defers := rc0.defers }, run_enterLoop_inner h1 fn tmps ps asg body, Same.refl w, List.nodup_nil, fun b hb => (by cases hb), rfl, rfl, rfl, rfl, rfl, rfl⟩
include hno
theorem range_sound {C : Ch R} (hC : ∀ f args s K, T (C f args s K) → TgOk P f args s fun r s => T (K r s)) {g : Operand} {ps : Array Tmp} {asg body : Code} {n : Nat} {e : List (Nat × V)} {s : Sto} {K : Ex → St → R} (h : T (rfL no P C g ps asg body n e s K)) : CodeOk P (.rangeFunc g ps asg body) ⟨n, e, s⟩ fun e s => T (K e s) := by
  unfold rfL at h
  obtain ⟨fv, hfv, h⟩ := Wi.out hno h
  split at h
  case h_2 => exact (hno h).elim
  rename_i f first cap hnf
  split at h
  case h_2 => exact (hno h).elim
  rename_i hlt
  have hlt : f < P.funcs.size := by simpa using hlt
  simp only [flA_eq] at h
  have hcall := (hC _ _ _ _ h).call hlt
  refine ⟨fun r B Δ ρ a w hs hf => wpIn_rangeFunc fun fn _ => ?_⟩
  obtain ⟨e1, e2⟩ := hs.eval hfv
  have e3 : a.eval g = .func (.func f) (absL ρ first).toArray (absL ρ cap).toArray := by rw [e1, ← abs_nf, hnf]; rfl
  have hfb : bdL s.length first ∧ bdL s.length cap := by have := bd_nf e2; rw [hnf] at this; exact this
  obtain ⟨wB, ms, rc, k1, k2, k3, k4, k5, k6, k7, k8, k9, k10⟩ := enter_loop (P := P) hf fn a.tmps ps asg body
  have repB := hs.rep.same hs.sb k2
  have hlp : (Ent.lp e n ps asg body none).bd s.length := fun t v hv => hs.bd t v hv
  have hpush : ∀ j, j < s.length → (ρ.push s.length wB.heap.size) j = ρ j := fun j hj => Rho.push_lt hj
  obtain ⟨q1, q2, q3⟩ := repB.alloc (e := .lp e n ps asg body none) (o := .loop rc) hs.sb rfl hlp ⟨rc, by rw [Rho.push_at]; exact World.alloc_heap_new _ _, k5, k6, k8, k9, k10, by rw [k7]; exact hs.size, fun t v hv => by
    rw [k7, V.abs_congr hpush v (hs.bd t v hv)]; exact hs.tmps t v hv⟩
  have E0 : Ext s ρ w (s ++ [.lp e n ps asg body none]) (ρ.push s.length wB.heap.size) (wB.alloc (.loop rc)) := k2.ext.trans q2
  have hyl : (V.yld s.length).abs (ρ.push s.length wB.heap.size) = .func (.yield wB.heap.size) #[] #[] := by simp only [V.abs, Rho.push_at]
  have hargs : (absL (ρ.push s.length wB.heap.size) (first ++ [.yld s.length] ++ cap)).toArray = (absL ρ first).toArray ++ #[.func (.yield wB.heap.size) #[] #[]] ++ (absL ρ cap).toArray := by
    rw [absL_append, absL_append, absL_congr hpush first hfb.1, absL_congr hpush cap hfb.2]
    simp [absL, hyl]
  have hle : s.length ≤ (s ++ [Ent.lp e n ps asg body none]).length := by simp
  have hbd : bdL (s ++ [Ent.lp e n ps asg body none]).length (first ++ [.yld s.length] ++ cap) := by
    refine bdL_append.2 ⟨bdL_append.2 ⟨bdL_mono hle _ hfb.1, ?_⟩, bdL_mono hle _ hfb.2⟩
    simp [bdL, V.bd]
  refine ⟨wB.heap.size, ms.map markD, wB.alloc (.loop rc), { target := .fn (.func f) (absL ρ cap).toArray, args := (absL ρ first).toArray ++ #[.func (.yield wB.heap.size) #[] #[]] }, wB.alloc (.loop rc), f, (absL (ρ.push s.length wB.heap.size) (first ++ [.yld s.length] ++ cap)).toArray, wB.alloc (.loop rc), k1, ?_, fun _ _ => trivial, ?_, fun hh => (by cases hh), ?_⟩
  · rw [show resolve a.eval (rangeCall g wB.heap.size) 0 = Deferred.ofValue (a.eval g) (#[Operand.const (.func (.yield wB.heap.size) #[] #[])].map a.eval) from rfl, e3]
    simp [Deferred.ofValue, Act.eval]
  · simp only [invoke]
    rw [hargs]
    exact hcall.plain _ _
  · refine callsIn_fr.2 ((hcall.run _ _ q1 q3 hbd).mono ?_)
    rintro x w3 ⟨res, s2, ρ2, rfl, hk, r1, r2, r3, r4⟩
    cases res with
    | pan v => exact (hno hk).elim
    | ret v =>
      dsimp only at hk
      split at hk
      case h_2 => exact (hno hk).elim
      rename_i e' n' ps' asg' body' pend hi2
      have hsl : s.length < (s ++ [Ent.lp e n ps asg body none]).length := by simp
      have hρl : ρ2 s.length = (wB.heap.size, 0) := by rw [r2.same _ hsl, Rho.push_at]
      obtain ⟨rc', g1, g2, g3, _⟩ := r1.ent _ _ hi2
      rw [hρl] at g1
      have hnb : rc'.state ≠ .busy := by rw [g2]; cases pend <;> simp
      have hl2 : s.length < s2.length := (List.getElem?_eq_some_iff.1 hi2).1
      have hρ : ∀ k, k < s.length → ρ2 k = ρ k := fun k hk => by rw [r2.same k (by simp; omega), hpush k hk]
      have hown : ∀ (j : Nat) (ej : Ent), s2[j]? = some ej → ej.live = true → j ≠ s.length → (ρ2 j).1 ≠ wB.heap.size := fun j ej hj ho hne hh => r1.sep _ j _ ej hi2 hj rfl ho (fun e => hne e.symm) (by rw [hρl]; exact hh.symm)
      have get : ∀ (j : Nat) (f : Ent), (s2.set s.length .no)[j]? = some f → f = .no ∨ (j ≠ s.length ∧ s2[j]? = some f) := by
        intro j f hf
        by_cases hij : j = s.length
        · subst hij
          rw [List.getElem?_set_self hl2] at hf
          exact .inl (Option.some.inj hf).symm
        · rw [List.getElem?_set_ne (fun e => hij e.symm)] at hf
          exact .inr ⟨hij, hf⟩
      have hwsz : w.heap.size ≤ wB.heap.size := k2.size
      have repF : Rep ρ2 (s2.set s.length .no) (w3.putObj wB.heap.size (.loop { rc' with state := .exhausted })) := by
        refine ⟨fun j f hf => ?_, fun j k f g hf hg ho hlv hjk => ?_⟩
        · rcases get j f hf with rfl | ⟨hne, hf⟩
          · trivial
          · cases hlv : f.live with
            | false => cases f <;> simp_all [Ent.live, RepE]
            | true => exact RepE.congr (n := s2.length) (fun _ _ => rfl) (List.getElem?_eq_some_iff.1 hf).1 (r3 j f hf) (World.putObj_heap_other (hown j f hf hlv hne)) (by simp) (r1.ent j f hf)
        · rcases get j f hf with rfl | ⟨hne, hf⟩
          · cases ho
          · rcases get k g hg with rfl | ⟨hne', hg⟩
            · cases hlv
            · exact r1.sep j k f g hf hg ho hlv hjk
      have sbF : sbd (s2.set s.length .no) := by
        intro j f hf
        rw [List.length_set]
        rcases get j f hf with rfl | ⟨hne, hf⟩
        · trivial
        · exact r3 j f hf
      have hnl : ∀ b, b < w.heap.size → ∀ (i : Nat) (ei : Ent), (∀ (i : Nat) (e : Ent), s[i]? = some e → e.isOwn = true → (ρ i).1 ≠ b) → (s ++ [Ent.lp e n ps asg body none])[i]? = some ei → ei.isOwn = true → ((ρ.push s.length wB.heap.size) i).1 ≠ b := by
        intro b hb i ei hn hi ho
        rcases Nat.lt_or_ge i s.length with h1 | h1
        · rw [List.getElem?_append_left h1] at hi
          rw [hpush i h1]; exact hn i ei hi ho
        · have : i = s.length := by have := (List.getElem?_eq_some_iff.1 hi).1; simp at this; omega
          subst this
          rw [Rho.push_at]; show wB.heap.size ≠ b; omega
      have extF : Ext s ρ w (s2.set s.length .no) ρ2 (w3.putObj wB.heap.size (.loop { rc' with state := .exhausted })) := by
        refine ⟨by simp; omega, hρ, fun j f hf ho => ?_, ?_, ?_, ?_, ?_, fun b hb hn => ?_⟩
        · rcases get j f hf with rfl | ⟨hne, hf⟩
          · cases ho
          · rcases r2.own j f hf ho with ⟨k, ek, p1, p2, p3⟩ | p1
            · rcases E0.own k ek p1 p2 with ⟨k', e'', p4, p5, p6⟩ | p4
              · exact .inl ⟨k', e'', p4, p5, p6.trans p3⟩
              · exact .inr (by rw [← p3]; exact p4)
            · exact .inr (Nat.le_trans E0.size p1)
        · exact r2.os.trans E0.os
        · exact r2.tape.trans E0.tape
        · exact r2.output.trans E0.output
        · simp only [World.putObj_size]; exact Nat.le_trans E0.size r2.size
        · rw [World.putObj_heap_other (by omega), r2.block b (Nat.lt_of_lt_of_le hb E0.size) fun i ei hi ho => hnl b hb i ei hn hi ho, E0.block b hb hn]
      have foF : Fo r B (ms.map markD ++ Δ) ρ2 (s2.set s.length .no) (w3.putObj wB.heap.size (.loop { rc' with state := .exhausted })) := by
        have old := hf.ext extF
        refine ⟨old.le, ?_, old.round⟩
        obtain ⟨ms0, o1, o2, o3⟩ := old.marks
        obtain ⟨ms1, p1, p2, p3⟩ := hf.marks
        have hms : ms0 = ms1 := by
          have inj : Function.Injective markD := fun a b hab => by simpa [markD] using hab
          have : ∀ (l1 l2 : List Nat), l1.map markD = l2.map markD → l1 = l2 := by
            intro l1
            induction l1 with
            | nil => intro l2 h; cases l2 with
              | nil => rfl
              | cons => cases h
            | cons a l1 ih => intro l2 h; cases l2 with
              | nil => cases h
              | cons b l2 => simp only [List.map_cons, List.cons.injEq] at h; rw [inj h.1, ih l2 h.2]
          exact this _ _ (o1.symm.trans p1)
        subst hms
        refine ⟨ms ++ ms0, by rw [o1, List.map_append], ?_, fun b hb => ?_⟩
        · refine List.nodup_append.2 ⟨k3, o2, fun x hx y hy hxy => ?_⟩
          subst hxy
          have := (k4 x hx).1
          have h2 := (Array.getElem?_eq_some_iff.1 (p3 x hy).2.1).1
          omega
        · rcases List.mem_append.1 hb with hb | hb
          · obtain ⟨m1, m2⟩ := k4 b hb
            have hbB : b < wB.heap.size := (Array.getElem?_eq_some_iff.1 m2).1
            have hn : ∀ (i : Nat) (ei : Ent), (s ++ [Ent.lp e n ps asg body none])[i]? = some ei → ei.isOwn = true → ((ρ.push s.length wB.heap.size) i).1 ≠ b := by
              intro i ei hi ho
              rcases Nat.lt_or_ge i s.length with h1 | h1
              · rw [List.getElem?_append_left h1] at hi
                rw [hpush i h1]
                have := (hs.rep.ent i ei hi).lt (Ent.own_live ho)
                omega
              · have : i = s.length := by have := (List.getElem?_eq_some_iff.1 hi).1; simp at this; omega
                subst this
                rw [Rho.push_at]; show wB.heap.size ≠ b; omega
            have hb1 : b < (wB.alloc (.loop rc)).heap.size := by simp; omega
            obtain ⟨p4, p5⟩ := r2.away hb1 hn
            refine ⟨Nat.le_trans hf.le m1, ?_, fun i ei hi ho => ?_⟩
            · rw [World.putObj_heap_other (by omega), p4, (Same.alloc wB (.loop rc)).block b hbB]
              exact m2
            · rcases get i ei hi with rfl | ⟨_, hi⟩
              · cases ho
              · exact p5 i ei hi ho
          · exact o3 b hb
      have simF : Sim (ms.map markD ++ Δ) ρ2 ⟨n, e, s2.set s.length .no⟩ { a with defers := ms.map markD ++ a.defers } (w3.putObj wB.heap.size (.loop { rc' with state := .exhausted })) := by
        refine ⟨by simp only [hs.defers], hs.size, fun t v hv => ?_, fun t v hv => ?_, repF, sbF⟩
        · rw [V.abs_congr hρ v (hs.bd t v hv)]; exact hs.tmps t v hv
        · rw [List.length_set]; exact V.bd_mono (Nat.le_of_lt hl2) v (hs.bd t v hv)
      refine ⟨pend, _, by rw [← g3]; exact run_endLoop g1 hnb, ?_⟩
      split at hk
      · exact ⟨.normal, ⟨n, e, s2.set s.length .no⟩, ρ2, _, trivial, hk, simF, extF, foF⟩
      · exact wpIn_ret ⟨.ret, ⟨n, e, s2.set s.length .no⟩, ρ2, _, trivial, hk, simF, extF, foF⟩
      · exact wpIn_exit ⟨.exit _, ⟨n, e, s2.set s.length .no⟩, ρ2, _, rfl, hk, simF, extF, foF⟩
      · exact wpIn_goto ⟨.goto _, ⟨n, e, s2.set s.length .no⟩, ρ2, _, rfl, hk, simF, extF, foF⟩
      · exact (hno hk).elim
end
end Go.Proofs.YtalgegmcllcnmaaRL
end
section
/- RL: what a region that draws its order, a round, a range over a function come to is one end and one state, whatever is made of them. -/
namespace Go.Proofs.YtalgegmcllcnmaaRL
open Go
set_option linter.unusedVariables false
set_option linter.unusedSimpArgs false
def topC {R : Type} (no : R) (D : Dh) : Ch R := fun f args s K => match D f args s with
  | some (r, s') => K r s'
  | none => no
theorem topC_pickD {R : Type} {no : R} {T : R → Prop} (hno : ¬ T no) {D : Dh} : PickD T (topC no D) D := by
  intro f args s K h
  unfold topC at h
  split at h
  · rename_i r s' hd
    exact ⟨r, s', h, hd⟩
  · exact (hno h).elim
/-- Functions alone, no rounds. -/
def onlyC {R : Type} (no : R) (P : Program) (C : Ch R) : Ch R := fun f args s K => match Nat.blt f P.funcs.size with
  | true => C f args s K
  | false => no
section
variable {P : Program} {R : Type} {no : R} {T : R → Prop} {α : Type}
theorem onlyC_pick (hno : ¬ T no) {C : Ch R} {C0 : Ch (Option α)} (hC : PickC T C C0) : PickC T (onlyC no P C) (onlyC none P C0) := by
  intro f args s K h
  unfold onlyC at h ⊢
  split at h
  · rename_i hlt
    obtain ⟨r, s', h1, h2⟩ := hC _ _ _ _ h
    exact ⟨r, s', h1, fun K0 => by exact h2 K0⟩
  · exact (hno h).elim
theorem opValC_pickC (hno : ¬ T no) {Q : Ch R} {Q0 : Ch (Option α)} (hQ : PickC T Q Q0) {op : Op} {e : List (Nat × V)} {s : Sto} {K : V × List Ent × Option (Nat × Ent) → R} (h : T (opValC no P Q op e s K)) : ∃ r, T (K r) ∧ ∀ K0 : V × List Ent × Option (Nat × Ent) → Option α, opValC none P Q0 op e s K0 = K0 r := by
  have mk : ∀ {op : Op} {s0 : Sto} {f : V → Sto → Option (V × List Ent × Option (Nat × Ent))}, T (valOpT no P op e s0 fun v s' => Wi no (f v s') K) → ∃ r, T (K r) ∧ ∀ K0 : V × List Ent × Option (Nat × Ent) → Option α, (valOpT none P op e s0 fun v s' => Wi none (f v s') K0) = K0 r := by
    intro op s0 f h
    obtain ⟨v, s', h1, h2⟩ := valOpT_pick (α := α) hno h
    obtain ⟨r, h3, h4⟩ := Wi.out hno h1
    exact ⟨r, h4, fun K0 => by rw [h2]; simp only [h3, Wi]⟩
  have ma : ∀ {ts : List TypeId} {args : List V} {s0 : Sto} {f : V → Sto → Option (V × List Ent × Option (Nat × Ent))}, T (vAppendE no P ts args s0 fun v s' => Wi no (f v s') K) → ∃ r, T (K r) ∧ ∀ K0 : V × List Ent × Option (Nat × Ent) → Option α, (vAppendE none P ts args s0 fun v s' => Wi none (f v s') K0) = K0 r := by
    intro ts args s0 f h
    obtain ⟨v, s', h1, h2⟩ := vAppendE_pick (α := α) hno h
    obtain ⟨r, h3, h4⟩ := Wi.out hno h1
    exact ⟨r, h4, fun K0 => by rw [h2]; simp only [h3, Wi]⟩
  have mq : ∀ {op : Op}, T (match stillOp op with | true => valOpT no P op e s fun v _ => K (v, [], none) | false => no) → ∃ r, T (K r) ∧ ∀ K0 : V × List Ent × Option (Nat × Ent) → Option α, (match stillOp op with | true => valOpT none P op e s fun v _ => K0 (v, [], none) | false => none) = K0 r := by
    intro op h
    split at h
    · rename_i hs
      obtain ⟨v, s', h1, h2⟩ := valOpT_pick (α := α) hno h
      exact ⟨(v, [], none), h1, fun K0 => by exact h2 _⟩
    · exact (hno h).elim
  have mw : ∀ {x : Option (V × List Ent × Option (Nat × Ent))}, T (Wi no x K) → ∃ r, T (K r) ∧ ∀ K0 : V × List Ent × Option (Nat × Ent) → Option α, Wi none x K0 = K0 r := by
    intro x h
    obtain ⟨r, h3, h4⟩ := Wi.out hno h
    exact ⟨r, h4, fun K0 => by simp only [h3, Wi]⟩
  have gen : ∀ {op : Op}, (opValC no P Q op e s K = match stillOp op with | true => valOpT no P op e s fun v _ => K (v, [], none) | false => no) → (∀ K0 : V × List Ent × Option (Nat × Ent) → Option α, opValC none P Q0 op e s K0 = match stillOp op with | true => valOpT none P op e s fun v _ => K0 (v, [], none) | false => none) → T (opValC no P Q op e s K) → ∃ r, T (K r) ∧ ∀ K0 : V × List Ent × Option (Nat × Ent) → Option α, opValC none P Q0 op e s K0 = K0 r := by
    intro op h1 h2 h
    rw [h1] at h
    obtain ⟨r, h3, h4⟩ := mq h
    exact ⟨r, h3, fun K0 => by rw [h2]; exact h4 K0⟩
  have gen2 : ∀ {op : Op}, (opValC no P Q op e s K = valOpT no P op e (roS s) fun v s' => Wi no (newVal (trimN s (some (v, s')))) K) → (∀ K0 : V × List Ent × Option (Nat × Ent) → Option α, opValC none P Q0 op e s K0 = valOpT none P op e (roS s) fun v s' => Wi none (newVal (trimN s (some (v, s')))) K0) → T (opValC no P Q op e s K) → ∃ r, T (K r) ∧ ∀ K0 : V × List Ent × Option (Nat × Ent) → Option α, opValC none P Q0 op e s K0 = K0 r := by
    intro op h1 h2 h
    rw [h1] at h
    obtain ⟨r, h3, h4⟩ := mk (f := fun v s' => newVal (trimN s (some (v, s')))) h
    exact ⟨r, h3, fun K0 => by rw [h2]; exact h4 K0⟩
  cases op
  case call c =>
    simp only [opValC] at h ⊢
    split at h
    · rename_i b hb
      split at h
      · split at h
        · rename_i args ha
          split at h
          · rename_i hk
            exact mw h
          · rename_i hk
            exact ma h
          · rename_i k hk0 hk1
            split at h
            · rename_i i hi
              split at h
              · rename_i ho
                exact ma (f := fun v s' => app2f s i (some (v, s'))) h
              · exact (hno h).elim
            · exact (hno h).elim
        · exact (hno h).elim
      · rename_i hn
        obtain ⟨r, h1, h2⟩ := mw h
        refine ⟨r, h1, fun K0 => ?_⟩
        exact h2 K0
    · rename_i hb
      obtain ⟨r, s', h1, h2⟩ := callxT_pick (α := α) hno hQ h
      cases r with
      | pan v => exact (hno h1).elim
      | ret v =>
        obtain ⟨q, h3, h4⟩ := Wi.out hno h1
        refine ⟨q, h4, fun K0 => ?_⟩
        have e0 : callxT none P Q0 c e (roS s) (fun v s' => Wi none (newVal (trimN s (some (v, s')))) K0) (fun _ _ => none) = K0 q := by
          rw [h2]
          simp only [resK, h3, Wi]
        cases hc : c.callee with
        | builtin b => exact (hb b hc).elim
        | _ => exact e0
  case store t a x =>
    simp only [opValC] at h ⊢
    split at h
    · rename_i i hi
      exact mk (f := fun v s' => chgVal s i (some (v, s'))) h
    · exact (hno h).elim
  case mapUpdate t a x y =>
    simp only [opValC] at h ⊢
    split at h
    · rename_i i hi
      exact mk (f := fun v s' => chgVal s i (some (v, s'))) h
    · exact (hno h).elim
  case alloc => exact gen2 rfl (fun _ => rfl) h
  case box => exact gen2 rfl (fun _ => rfl) h
  case buildSlice => exact gen2 rfl (fun _ => rfl) h
  case makeSlice => exact gen2 rfl (fun _ => rfl) h
  case makeMap => exact gen2 rfl (fun _ => rfl) h
  all_goals exact gen rfl (fun _ => rfl) h
theorem dqrun_pick (hno : ¬ T no) {Q : Ch R} {Q0 : Ch (Option α)} (hQ : PickC T Q Q0) {n : Nat} {ops : List Oper} {TC : List Nat} {ch : List (Nat × Nat)} {s : Sto} {K : List (Nat × V) → List (Nat × Ent) → List (Nat × Nat × Ent) → R} : ∀ {os : List Oper} {j : Nat} {e : List (Nat × V)} {N : List (Nat × Ent)} {Cs : List (Nat × Nat × Ent)}, T (dqrun no P Q n ops TC ch s K os j e N Cs) →
    ∃ e' N' Cs', T (K e' N' Cs') ∧ ∀ K0 : List (Nat × V) → List (Nat × Ent) → List (Nat × Nat × Ent) → Option α, dqrun none P Q0 n ops TC ch s K0 os j e N Cs = K0 e' N' Cs' := by
  intro os
  induction os with
  | nil => intro j e N Cs h; exact ⟨_, _, _, h, fun _ => rfl⟩
  | cons o os ih =>
    intro j e N Cs h
    simp only [dqrun, fl_eq] at h
    rcases vWantedT_pick (α := α) hno h with ⟨e', h, hw⟩ | ⟨e', h, hw⟩
    · obtain ⟨r, h1, h2⟩ := opValC_pickC hno hQ h
      split at h1
      · rename_i hok
        obtain ⟨e2, N2, C2, h3, h4⟩ := ih h1
        exact ⟨e2, N2, C2, h3, fun K0 => by simp only [dqrun, fl_eq, hw, h2, hok]; exact h4 K0⟩
      · exact (hno h1).elim
    · obtain ⟨e2, N2, C2, h3, h4⟩ := ih h
      exact ⟨e2, N2, C2, h3, fun K0 => by simp only [dqrun, fl_eq, hw]; exact h4 K0⟩
theorem dq2_pick (hno : ¬ T no) {Q : Ch R} {Q0 : Ch (Option α)} (hQ : PickC T Q Q0) {n : Nat} {ops : List Oper} {TC : List Nat} {s : Sto} {K : List (Nat × V) → Sto → R} {l : List Oper} {e : List (Nat × V)} (h : T (dq2 no P Q n ops TC s K l e)) :
    ∃ e' s', T (K e' s') ∧ ∀ K0 : List (Nat × V) → Sto → Option α, dq2 none P Q0 n ops TC s K0 l e = K0 e' s' := by
  unfold dq2 at h ⊢
  obtain ⟨e1, N1, C1, h1, h2⟩ := dqrun_pick hno hQ h
  cases C1 with
  | nil =>
    cases N1 with
    | nil => exact ⟨_, _, h1, fun K0 => by rw [h2]⟩
    | cons p N1 =>
      simp only [flA_eq] at h1
      exact ⟨_, _, h1, fun K0 => by rw [h2]; simp only [flA_eq]⟩
  | cons c cs =>
    simp only [fl_eq] at h1
    obtain ⟨e3, N3, C3, h3, h4⟩ := dqrun_pick hno hQ h1
    split at h3
    · rename_i hck
      rw [flA_eq] at h3
      exact ⟨_, _, h3, fun K0 => by rw [h2]; simp only [fl_eq]; rw [h4]; simp only [hck, flA_eq]⟩
    · exact (hno h3).elim
theorem drwDT_pick (hno : ¬ T no) {C : Ch R} {C0 : Ch (Option α)} (hC : PickC T C C0) {Q : Ch R} {Q0 : Ch (Option α)} (hQ : PickC T Q Q0) {ops : List Oper} {K : Ex → St → R} {n : Nat} {e : List (Nat × V)} {s : Sto} (h : T (drwDT no P C Q ops K n e s)) :
    ∃ x st', T (K x st') ∧ ∀ K0 : Ex → St → Option α, drwDT none P C0 Q0 ops K0 n e s = K0 x st' := by
  unfold drwDT at h ⊢
  split at h
  · exact (hno h).elim
  rename_i hok
  rw [flA_eq] at h
  split at h
  · exact (hno h).elim
  rename_i htc
  obtain ⟨e1, s1, h1, h2⟩ := dq2_pick hno hQ h
  obtain ⟨x, st', h3, h4⟩ := evOpsT_pick hno hC h1
  exact ⟨x, st', h3, fun K0 => by simp only [hok, flA_eq, htc, h2]; exact h4 K0⟩
theorem rnd_pick (hno : ¬ T no) {C : Ch R} {C0 : Ch (Option α)} (hC : PickC T C C0) {L : Lh R} {L0 : Lh (Option α)} (hL : PickL T L L0) {i : Nat} {args : List V} {s : Sto} {K : Res → Sto → R} (h : T (rnd no P C L i args s K)) :
    ∃ r s', T (K r s') ∧ ∀ K0 : Res → Sto → Option α, rnd none P C0 L0 i args s K0 = K0 r s' := by
  unfold rnd at h ⊢
  split at h
  · rename_i e n ps asg body hi
    split at h
    · rename_i hn
      rw [fl_eq, flA_eq] at h
      obtain ⟨x, st1, h1, h2⟩ := Ev_pick hno hC hL h
      cases x
      case normal =>
        obtain ⟨y, st2, h3, h4⟩ := Ev_pick hno hC hL h1
        cases y
        case panic => exact (hno h3).elim
        all_goals
          simp only [flA_eq] at h3
          exact ⟨_, _, h3, fun K0 => by simp only [hi, hn, fl_eq, flA_eq, h2, h4]⟩
      all_goals exact (hno h1).elim
    · exact (hno h).elim
  · exact (hno h).elim
theorem rfL_pick (hno : ¬ T no) {C : Ch R} {C0 : Ch (Option α)} (hC : PickC T C C0) {L : Lh R} {g : Operand} {ps : Array Tmp} {asg body : Code} {n : Nat} {e : List (Nat × V)} {s : Sto} {K : Ex → St → R} {L0 : Lh (Option α)} (h : T (rfL no P C g ps asg body n e s K)) :
    ∃ x st', T (K x st') ∧ ∀ K0 : Ex → St → Option α, rfL none P C0 g ps asg body n e s K0 = K0 x st' := by
  unfold rfL at h ⊢
  obtain ⟨fv, e1, h⟩ := Wi.out hno h
  split at h
  · rename_i f first cap hf
    split at h
    · rename_i hlt
      rw [flA_eq] at h
      obtain ⟨r, s2, h1, h2⟩ := hC _ _ _ _ h
      cases r with
      | pan v => exact (hno h1).elim
      | ret v =>
        simp only at h1
        split at h1
        · rename_i a b c d f2 pend hp
          rw [flA_eq] at h1
          split at h1
          all_goals first
            | exact (hno h1).elim
            | exact ⟨_, _, h1, fun K0 => by simp only [e1, Wi, hf, hlt, flA_eq, h2, hp]⟩
        · exact (hno h1).elim
    · exact (hno h).elim
  · exact (hno h).elim
end
end Go.Proofs.YtalgegmcllcnmaaRL
end
section
/- RL, twelfth text: code run whole; calls met by what is known of functions. -/
namespace Go.Proofs.YtalgegmcllcnmaaRL
open Go
set_option linter.unusedVariables false
set_option linter.unusedSimpArgs false
abbrev RO := Option (Res × Sto)
def namesOk (P : Program) : Bool := P.funcs.all fun fn => !(fn.name == "runtime.NumGoroutine")
theorem names_at {P : Program} (h : namesOk P = true) {f : FuncId} {fn : Func} (hf : P.funcs[f]? = some fn) : (fn.name == "runtime.NumGoroutine") = false := by
  have := (Array.all_eq_true_iff_forall_mem.1 h) fn (Array.mem_of_getElem? hf)
  simpa using this
/-- By hand: calls met by what is known, or one by one. -/
def Cu (P : Program) (D : Dh) : Ch Prop := fun f args s K => match D f args s with
  | some (r, s') => K r s'
  | none => TgOk P f args s K
def Lv (P : Program) (D : Dh) : Lh Prop := fun c st K =>
  match c with
  | .loop b => LoopOk P b st K
  | .region id ops true => match st with
    | ⟨n, e, s⟩ => drwDT False P (Cu P D) (topC False D) ops.toList K n e s
  | c => CodeOk P c st K
theorem Cu.sound {P : Program} {D : Dh} (hD : DOk P D) {f : FuncId} {args : List V} {s : Sto} {K : Res → Sto → Prop} (h : Cu P D f args s K) : TgOk P f args s K := by
  unfold Cu at h
  split at h
  · rename_i r s' hd
    exact ((hD _ _ _ _ _ hd).mono fun r2 s2 h2 => by obtain ⟨rfl, rfl⟩ := h2; exact h).tg
  · exact h
theorem Lv.sound {P : Program} {D : Dh} (hD : DOk P D) (hm : P.follows .mixedOrders = true) {c : Code} {st : St} {K : Ex → St → Prop} (h : Lv P D c st K) : CodeOk P c st K := by
  unfold Lv at h
  split at h
  · exact LoopOk.code h
  · obtain ⟨sn, se, ss⟩ := st
    exact drwD_sound (T := fun p : Prop => p) (st := ⟨sn, se, ss⟩) (fun h => h) (fun _ _ _ _ h => Cu.sound hD h) (topC_pickD (fun h => h)) hD hm h
  · exact h
abbrev EvD (P : Program) (D : Dh) := Ev False P (Cu P D) (Lv P D)
theorem EvD.sound {P : Program} {D : Dh} (hD : DOk P D) (hm : P.follows .mixedOrders = true) {c : Code} {st : St} {K : Ex → St → Prop} (h : EvD P D c st K) : CodeOk P c st K :=
  Ev.sound (T := fun p : Prop => p) (fun h => h) (fun _ _ _ _ h => Cu.sound hD h) (fun _ _ _ h => Lv.sound hD hm h) c st K h
end Go.Proofs.YtalgegmcllcnmaaRL
end
section
/- RL, thirteenth text: a law's function, computed; what is known of a function at no store at all holds at every store. -/
namespace Go.Proofs.YtalgegmcllcnmaaRL
open Go
set_option linter.unusedVariables false
set_option linter.unusedSimpArgs false
/-- What only reads leaves the store. -/
theorem CallOk.quiet {P : Program} {f : FuncId} {args : List V} {s : Sto} {v : V} (h : CallOk P f args (roS s) fun r _ => r = .ret v) (hv : v.bd s.length) : CallOk P f args s fun r s' => r = .ret v ∧ s' = s := by
  refine ⟨h.plain, fun ρ w h1 h2 h3 => (h.run ρ w h1.toRo h2.toRo (by rw [toRo_length]; exact h3)).mono ?_⟩
  rintro e w' ⟨r, s', ρ', rfl, rfl, r1, r2, r3, r4⟩
  obtain ⟨q1, q2⟩ := quiet_ext h1 h2 r2
  refine ⟨.ret v, s, ρ, ?_, ⟨rfl, rfl⟩, q1, q2, h2, hv⟩
  simp only [Res.ending]
  rw [V.abs_congr (fun i hi => r2.same i (by rw [toRo_length]; exact hi)) v hv]
/-- What asks nothing of the store asks nothing of any. -/
theorem CallOk.anywhere {P : Program} {f : FuncId} {args : List V} {s : Sto} {v : V} (h : CallOk P f args [] fun r _ => r = .ret v) (ha : bdL 0 args) (hv : v.bd 0) : CallOk P f args s fun r s' => r = .ret v ∧ s' = s := by
  refine ⟨h.plain, fun ρ w h1 h2 h3 => (h.run ρ w ⟨fun i e he => (by simp at he), fun i j e f he => (by simp at he)⟩ (fun i e he => (by simp at he)) ha).mono ?_⟩
  rintro e w' ⟨r, s', ρ', rfl, rfl, r1, r2, r3, r4⟩
  have hblk : ∀ b, b < w.heap.size → w'.heap[b]? = w.heap[b]? := fun b hb => r2.block b hb fun i e hi => by simp at hi
  refine ⟨.ret v, s, ρ, ?_, ⟨rfl, rfl⟩, ⟨fun i e hi => ?_, h1.sep⟩, ⟨Nat.le_refl _, fun _ _ => rfl, fun i e h ho => .inl ⟨i, e, h, ho, rfl⟩, r2.os, r2.tape, r2.output, r2.size, fun b hb _ => hblk b hb⟩, h2, V.bd_mono (Nat.zero_le _) v hv⟩
  · simp only [Res.ending]
    rw [V.abs_congr (n := 0) (fun i hi => absurd hi (by omega)) v hv]
  · have hr := h1.ent i e hi
    cases hl : e.live with
    | true => exact RepE.congr (n := s.length) (fun _ _ => rfl) (List.getElem?_eq_some_iff.1 hi).1 (h2 i e hi) (hblk _ (hr.lt hl)) r2.size hr
    | false => cases e <;> simp_all [Ent.live, RepE]
/-- What a law's row wants, of arguments without places. -/
theorem CallOk.row {P : Program} {f : FuncId} {args : List V} {xs : Array Value} (h : CallOk P f args [] fun r _ => r = .ret (.raw (.bool true))) (ha : bdL 0 args) (hx : absL (fun _ => (0, 0)) args = xs.toList) (W : World) :
    Calls P f xs W fun e w' => e = .returned (.bool true) ∧ Go.RowKit.Below W.heap.size W w' := by
  have := h.below (ρ := fun _ => (0, 0)) (w := W) (r := .raw (.bool true)) ⟨fun i e he => (by simp at he), fun i j e f he => (by simp at he)⟩ (fun i e he => (by simp at he)) ha (fun i e he => (by simp at he)) trivial
  rw [hx] at this
  exact this
end Go.Proofs.YtalgegmcllcnmaaRL
end
section
/- RL, fourteenth text: what is known of a function by hand, as a table's line. -/
namespace Go.Proofs.YtalgegmcllcnmaaRL
open Go
set_option linter.unusedVariables false
end Go.Proofs.YtalgegmcllcnmaaRL
end
