/- Parts of the proof, one behind the other. -/
import Derived.Test.YtllfmafebhifdaazWinBarriersRLF
import Derived.RangeFuncRecord
import Derived.RangeFuncNested
import Derived.Below
import Derived.Deep.Draws
import Derived.Deep.AppendLies
import Derived.Maps.AppendAt
import Derived.OwnWalk
import Derived.Laws.BytesArg
import Derived.Laws.MakeOwn
import Derived.Laws.OwnMore
import Derived.Deep.OwnRows
import Derived.Tactics
import Derived.Lib.ConvBytes
import Derived.Laws.Slices
import Derived.WalkKit
import Derived.KernelRfl
import Derived.RowKit3
import Derived.Deep.LoopGhost
import Derived.Deep.QuietTactic
import Derived.BigQuiet
import Derived.WideLaws
import Derived.Deep.DeepCutAuto
import Derived.Deep.CutBlock
import Derived.Deep.RegionHeld3
import Derived.Laws.Rows
import Derived.Lib.AppendStr
import Derived.ArgAppend
import Derived.Laws.IdiomCopy
import Derived.RowKit
section
/- RL: ranges over functions: a round; the statement. -/
namespace Go.Proofs.YtllfmafebhifdaaRL
open Go
set_option linter.unusedVariables false
set_option linter.unusedSimpArgs false
variable {Δ : List Deferred}
/-- A round's values, put into the frame. -/
def zipPs (n : Nat) : List Tmp → List V → List (Nat × V) → List (Nat × V)
  | t :: ts, v :: vs, e => zipPs n ts vs (putT n e (some t) v)
  | _, _, e => e
/-- A round of the loop whose record is i's: hidden while it runs. -/
def rnd {R : Type} (no : R) (P : Program) (C : Ch R) (L : Lh R) (i : Nat) (args : List V) (s : Sto) (K : Res → Sto → R) : R :=
  match s[i]? with
  | some (.lp e n ps asg body none) => match Nat.beq args.length ps.size with
    | true => fl (zipPs n ps.toList args e) fun e1 => flA (s.set i .no) fun s1 => Ev no P C L asg ⟨n, e1, s1⟩ fun x st1 => match x with
      | .normal => Ev no P C L body st1 fun x st2 => match x with
        | .normal => flA (st2.s.set i (.lp e n ps asg body none)) fun s3 => K (.ret (.raw (.bool true))) s3
        | .ret => flA (st2.s.set i (.lp e n ps asg body (some .ret))) fun s3 => K (.ret (.raw (.bool false))) s3
        | .exit id => flA (st2.s.set i (.lp e n ps asg body (some (.exit id)))) fun s3 => K (.ret (.raw (.bool false))) s3
        | .goto l => flA (st2.s.set i (.lp e n ps asg body (some (.goto l)))) fun s3 => K (.ret (.raw (.bool false))) s3
        | .panic _ => no
      | _ => no
    | false => no
  | _ => no
/-- The statement: the record is laid; the function is called with the loop's yield; the jump that a round has left. -/
def rfL {R : Type} (no : R) (P : Program) (C : Ch R) (g : Operand) (ps : Array Tmp) (asg body : Code) (n : Nat) (e : List (Nat × V)) (s : Sto) (K : Ex → St → R) : R :=
  Wi no (getT e g) fun fv => match fv.nf with
  | .fn (.func f) first cap => match Nat.blt f P.funcs.size with
    | true => flA (s ++ [.lp e n ps asg body none]) fun s1 => C f (first ++ [.yld s.length] ++ cap) s1 fun r s2 => match r with
      | .ret _ => match s2[s.length]? with
        | some (.lp _ _ _ _ _ pend) => flA (s2.set s.length .no) fun s3 => match pend with
          | none => K .normal ⟨n, e, s3⟩
          | some .ret => K .ret ⟨n, e, s3⟩
          | some (.exit id) => K (.exit id) ⟨n, e, s3⟩
          | some (.goto l) => K (.goto l) ⟨n, e, s3⟩
          | _ => no
        | _ => no
      | .pan _ => no
    | false => no
  | _ => no
section
variable {P : Program} {ρ : Rho} {w : World} {s : Sto}
theorem sim_zip {n : Nat} : ∀ (ts : List Tmp) (vs : List V) (e : List (Nat × V)) (a : Act), Sim Δ ρ ⟨n, e, s⟩ a w → bdL s.length vs → Sim Δ ρ ⟨n, zipPs n ts vs e, s⟩ { a with tmps := (ts.zip (absL ρ vs)).foldl (fun tmps x => tmps.setIfInBounds x.1 x.2) a.tmps } w := by
  intro ts
  induction ts with
  | nil => intro vs e a h _; exact h
  | cons t ts ih =>
    intro vs e a h hb
    cases vs with
    | nil => exact h
    | cons v vs => exact ih vs _ _ (h.put (dst := some t) h.rep h.sb (Ext.refl _ _ _) hb.1) hb.2
/-- Whatever is live lies elsewhere than a loop's record that is none of the store's. -/
theorem live_ne {l : Nat} {o : Loop} (hr : Rep ρ s w) (hl : w.heap[l]? = some (.loop o)) (ha : ∀ (i : Nat) (e : Ent), s[i]? = some e → e.isOwn = true → (ρ i).1 ≠ l) (i : Nat) (e : Ent) (he : s[i]? = some e) (hlv : e.live = true) : (ρ i).1 ≠ l := by
  cases e with
  | ro cs =>
    obtain ⟨⟨a, t, x, h1⟩, _⟩ := hr.ent i _ he
    intro hh
    rw [hh, hl] at h1; cases h1
  | no => cases hlv
  | own => exact ha i _ he rfl
  | map => exact ha i _ he rfl
  | lst => exact ha i _ he rfl
  | arr m cols n t =>
    cases m with
    | ro =>
      obtain ⟨cs, _, _, _, ⟨⟨a, t, x, h1⟩, _⟩⟩ := hr.ent i _ he
      intro hh
      rw [hh, hl] at h1; cases h1
    | own => exact ha i _ he rfl
    | grow k => exact ha i _ he rfl
  | lp => exact ha i _ he rfl
theorem Rep.put {l : Nat} {o : Loop} {o' : Obj} (hr : Rep ρ s w) (hs : sbd s) (hl : w.heap[l]? = some (.loop o)) (ha : ∀ (i : Nat) (e : Ent), s[i]? = some e → e.isOwn = true → (ρ i).1 ≠ l) : Rep ρ s (w.putObj l o') := by
  refine ⟨fun i e he => ?_, hr.sep⟩
  cases hlv : e.live with
  | false => cases e <;> simp_all [Ent.live, RepE]
  | true =>
    have hne := live_ne hr hl ha i e he hlv
    exact RepE.congr (n := s.length) (fun _ _ => rfl) (List.getElem?_eq_some_iff.1 he).1 (hs i e he) (World.putObj_heap_other hne) (by simp) (hr.ent i e he)
theorem Fo.put {r : Option Nat} {B l : Nat} {o o' : Loop} (h : Fo r B Δ ρ s w) (hl : w.heap[l]? = some (.loop o)) : Fo r B Δ ρ s (w.putObj l (.loop o')) := by
  have hlt : l < w.heap.size := (Array.getElem?_eq_some_iff.1 hl).1
  have hself : (w.putObj l (.loop o')).heap[l]? = some (.loop o') := by simp [World.putObj, hlt]
  refine ⟨by simpa using h.le, ?_, fun l' hl' => ?_⟩
  · obtain ⟨ms, h1, h2, h3⟩ := h.marks
    refine ⟨ms, h1, h2, fun b hb => ?_⟩
    obtain ⟨k1, k2, k3⟩ := h3 b hb
    refine ⟨k1, ?_, k3⟩
    rw [World.putObj_heap_other (fun e => by rw [e, hl] at k2; cases k2)]
    exact k2
  · obtain ⟨rc, k1, k2⟩ := h.round l' hl'
    by_cases hh : l' = l
    · subst hh; exact ⟨o', hself, k2⟩
    · exact ⟨rc, by rw [World.putObj_heap_other hh]; exact k1, k2⟩
variable {R : Type} {no : R} {T : R → Prop} (hno : ¬ T no)
include hno
theorem rnd_sound {C : Ch R} {L : Lh R} (hEv : ∀ c st K, T (Ev no P C L c st K) → CodeOk P c st fun e s => T (K e s)) {i : Nat} {args : List V} {s : Sto} {K : Res → Sto → R} (h : T (rnd no P C L i args s K)) : YldOk P i args s fun r s => T (K r s) := by
  unfold rnd at h
  split at h
  case h_2 => exact (hno h).elim
  rename_i e n ps asg body hsi
  split at h
  case h_2 => exact (hno h).elim
  rename_i hlen
  have hlen := Nat.eq_of_beq_eq_true hlen
  simp only [fl_eq, flA_eq] at h
  intro ρ w hr hsb hbd
  obtain ⟨rc, l1, l2, l3, l4, l5, l6, l7, l8⟩ := hr.ent i _ hsi
  have hil : i < s.length := (List.getElem?_eq_some_iff.1 hsi).1
  refine ⟨rc, l1, by rw [l4]; exact hlen, ?_⟩
  generalize hl : (ρ i).1 = l at l1
  have hllt : l < w.heap.size := (Array.getElem?_eq_some_iff.1 l1).1
  obtain ⟨f1, f2, f3⟩ := hr.forget hsb i
  have slen : (s.set i Ent.no).length = s.length := by simp
  have away0 : ∀ (j : Nat) (ej : Ent), (s.set i .no)[j]? = some ej → ej.isOwn = true → (ρ j).1 ≠ l := by
    intro j ej hj ho
    by_cases hij : j = i
    · subst hij
      rw [List.getElem?_set_self (by simpa using hil)] at hj
      obtain rfl := Option.some.inj hj
      cases ho
    · rw [List.getElem?_set_ne (fun e => hij e.symm)] at hj
      rw [← hl]
      exact fun hh => hr.sep i j _ ej hsi hj rfl (Ent.own_live ho) (fun e => hij e.symm) hh.symm
  have sim0 : Sim [] ρ ⟨n, e, s.set i .no⟩ { tmps := rc.tmps, defers := [] } w := ⟨rfl, l7, l8, fun t v hv => by rw [slen]; exact hsb i _ hsi t v hv, f1, f3⟩
  have sim1 := sim_zip ps.toList args e _ sim0 (by rw [slen]; exact hbd)
  have fo0 : Fo (some l) 0 [] ρ (s.set i .no) w := ⟨Nat.zero_le _, ⟨[], rfl, List.nodup_nil, fun b hb => by cases hb⟩, fun l' hl' => by cases hl'; exact ⟨rc, l1, away0⟩⟩
  have htm : (rc.params.zip (absL ρ args).toArray).foldl (fun tmps x => tmps.setIfInBounds x.1 x.2) rc.tmps = (ps.toList.zip (absL ρ args)).foldl (fun tmps x => tmps.setIfInBounds x.1 x.2) rc.tmps := by
    rw [← Array.foldl_toList, Array.toList_zip, l4]
  rw [htm, l5, l6]
  refine roundIn_of_wpIn (F := Fr none) (n := 0) trivial ?_
  refine wpIn_mono ((hEv _ _ _ h).run (some l) 0 [] ρ _ w sim1 fo0) ?_
  rintro x a1 w1 ⟨x1, st1, ρ1, Δ1, r1, hk1, simA, ext1, fo1⟩
  cases x1 <;> cases x <;> simp only [Ex.rel] at r1 <;> first | exact r1.elim | exact (hno hk1).elim | skip
  obtain ⟨hb1, away1⟩ := ext1.away hllt away0
  have l1' : w1.heap[l]? = some (.loop rc) := by rw [hb1]; exact l1
  have hst : rc.state = .ready := l2
  refine ⟨_, run_beginRound l1' hst, ?_⟩
  have hl1lt : l < w1.heap.size := (Array.getElem?_eq_some_iff.1 l1').1
  have l2' : (w1.putObj l (.loop { rc with state := .busy })).heap[l]? = some (.loop { rc with state := .busy }) := by simp [World.putObj, hl1lt]
  have repB := simA.rep.put (o' := .loop { rc with state := .busy }) simA.sb l1' away1
  have simB : Sim Δ1 ρ1 st1 a1 (w1.putObj l (.loop { rc with state := .busy })) := ⟨simA.defers, simA.size, simA.tmps, simA.bd, repB, simA.sb⟩
  have foB := fo1.put (o' := { rc with state := .busy }) l1'
  refine wpIn_mono ((hEv _ _ _ hk1).run (some l) 0 Δ1 ρ1 a1 _ simB foB) ?_
  rintro x a2 w3 ⟨x2, st2, ρ2, Δ2, r2, hk2, simC, ext2, fo3⟩
  obtain ⟨hb3, away3⟩ := ext2.away (by simpa using hl1lt) away1
  have l3' : w3.heap[l]? = some (.loop { rc with state := .busy }) := by rw [hb3]; exact l2'
  have hl3lt : l < w3.heap.size := (Array.getElem?_eq_some_iff.1 l3').1
  have hi1 : ρ1 i = ρ i := ext1.same i (by rw [slen]; exact hil)
  have hlen1 : s.length ≤ st1.s.length := by have := ext1.len; rwa [slen] at this
  have hi2 : ρ2 i = ρ i := by rw [ext2.same i (by omega), hi1]
  have hlen2 : s.length ≤ st2.s.length := Nat.le_trans hlen1 ext2.len
  have hρ : ∀ k, k < s.length → ρ2 k = ρ k := fun k hk => by rw [ext2.same k (by omega), ext1.same k (by rw [slen]; exact hk)]
  have fin : ∀ jump : Option Code, Rep ρ2 (st2.s.set i (.lp e n ps asg body jump)) (w3.putObj l (.loop { rc with state := if jump.isNone then .ready else .done, pending := jump })) ∧ Ext s ρ w (st2.s.set i (.lp e n ps asg body jump)) ρ2 (w3.putObj l (.loop { rc with state := if jump.isNone then .ready else .done, pending := jump })) ∧ sbd (st2.s.set i (.lp e n ps asg body jump)) := by
    intro jump
    have get : ∀ (j : Nat) (f : Ent), (st2.s.set i (.lp e n ps asg body jump))[j]? = some f → (j = i ∧ f = .lp e n ps asg body jump) ∨ (j ≠ i ∧ st2.s[j]? = some f) := by
      intro j f hf
      by_cases hij : j = i
      · subst hij
        rw [List.getElem?_set_self (by omega)] at hf
        exact .inl ⟨rfl, (Option.some.inj hf).symm⟩
      · rw [List.getElem?_set_ne (fun e => hij e.symm)] at hf
        exact .inr ⟨hij, hf⟩
    have repC := simC.rep.put (o' := .loop { rc with state := if jump.isNone then .ready else .done, pending := jump }) simC.sb l3' away3
    have lne := live_ne simC.rep l3' away3
    have hbl : (ρ2 i).1 = l := by rw [hi2, hl]
    refine ⟨⟨fun j f hf => ?_, fun j k f g hf hg ho hlv hjk => ?_⟩, ⟨by simpa using hlen2, hρ, fun j f hf ho => ?_, ?_, ?_, ?_, ?_, fun b hb hn => ?_⟩, fun j f hf => ?_⟩
    · rcases get j f hf with ⟨rfl, rfl⟩ | ⟨hij, hf⟩
      · refine ⟨{ rc with state := if jump.isNone then .ready else .done, pending := jump }, by rw [hbl]; simp [World.putObj, hl3lt], ?_, rfl, l4, l5, l6, l7, fun t v hv => ?_⟩
        · cases jump <;> simp
        · rw [V.abs_congr hρ v (hsb j _ hsi t v hv)]
          exact l8 t v hv
      · exact repC.ent j f hf
    · rcases get j f hf with ⟨h1, h2⟩ | ⟨hij, hf'⟩ <;> rcases get k g hg with ⟨h3, h4⟩ | ⟨hik, hg'⟩
      · exact absurd (h1.trans h3.symm) hjk
      · rw [h1, hbl]; exact fun hh => lne k g hg' hlv hh.symm
      · rw [h3, hbl]; exact lne j f hf' (Ent.own_live ho)
      · exact simC.rep.sep j k f g hf' hg' ho hlv hjk
    · rcases get j f hf with ⟨rfl, rfl⟩ | ⟨hij, hf⟩
      · exact .inl ⟨j, _, hsi, rfl, by rw [hi2]⟩
      · rcases ext2.own j f hf ho with ⟨k, g, k1, k2, k3⟩ | k1
        · rcases ext1.own k g k1 k2 with ⟨k', g', q1, q2, q3⟩ | q1
          · refine .inl ⟨k', g', ?_, q2, q3.trans k3⟩
            by_cases hki : k' = i
            · subst hki
              rw [List.getElem?_set_self (by simpa using hil)] at q1
              obtain rfl := Option.some.inj q1
              cases q2
            · rwa [List.getElem?_set_ne (fun e => hki e.symm)] at q1
          · exact .inr (by rw [← k3]; exact q1)
        · refine .inr (Nat.le_trans ext1.size ?_)
          simpa using k1
    · exact ext2.os.trans ext1.os
    · exact ext2.tape.trans ext1.tape
    · exact ext2.output.trans ext1.output
    · have := ext2.size
      simp only [World.putObj_size] at this ⊢
      exact Nat.le_trans ext1.size this
    · have hbl' : b ≠ l := fun hh => hn i _ hsi rfl (by rw [hl, hh])
      have hn1 : ∀ (j : Nat) (ej : Ent), (s.set i .no)[j]? = some ej → ej.isOwn = true → (ρ j).1 ≠ b := by
        intro j ej hj ho
        by_cases hij : j = i
        · subst hij
          rw [List.getElem?_set_self (by simpa using hil)] at hj
          obtain rfl := Option.some.inj hj
          cases ho
        · rw [List.getElem?_set_ne (fun e => hij e.symm)] at hj
          exact hn j ej hj ho
      obtain ⟨q1, q2⟩ := ext1.away hb hn1
      have hb1' : b < (w1.putObj l (.loop { rc with state := .busy })).heap.size := by simp only [World.putObj_size]; exact Nat.lt_of_lt_of_le hb ext1.size
      obtain ⟨q3, _⟩ := ext2.away hb1' q2
      rw [World.putObj_heap_other hbl', q3, World.putObj_heap_other hbl', q1]
    · rw [show (st2.s.set i (Ent.lp e n ps asg body jump)).length = st2.s.length by simp]
      rcases get j f hf with ⟨rfl, rfl⟩ | ⟨hij, hf⟩
      · exact fun t v hv => V.bd_mono hlen2 v (hsb j _ hsi t v hv)
      · exact simC.sb j f hf
  cases x2 <;> cases x <;> simp only [Ex.rel] at r2 <;> first | exact r2.elim | exact (hno hk2).elim | skip
  · obtain ⟨q1, q2, q3⟩ := fin none
    exact ⟨_, _, run_endRound none l3', .ret (.raw (.bool true)), _, ρ2, rfl, hk2, q1, q2, q3, trivial⟩
  · subst r2
    obtain ⟨q1, q2, q3⟩ := fin (some (.exit _))
    exact ⟨_, _, run_endRound (some (.exit _)) l3', .ret (.raw (.bool false)), _, ρ2, rfl, hk2, q1, q2, q3, trivial⟩
  · subst r2
    obtain ⟨q1, q2, q3⟩ := fin (some (.goto _))
    exact ⟨_, _, run_endRound (some (.goto _)) l3', .ret (.raw (.bool false)), _, ρ2, rfl, hk2, q1, q2, q3, trivial⟩
  · obtain ⟨q1, q2, q3⟩ := fin (some .ret)
    exact ⟨_, _, run_endRound (some .ret) l3', .ret (.raw (.bool false)), _, ρ2, rfl, hk2, q1, q2, q3, trivial⟩
omit hno
theorem Rep.same {ρ : Rho} {s : Sto} {w w' : World} (hr : Rep ρ s w) (hs : sbd s) (h : Same w w') : Rep ρ s w' := by
  refine ⟨fun i e he => ?_, hr.sep⟩
  cases hlv : e.live with
  | false => cases e <;> simp_all [Ent.live, RepE]
  | true => exact RepE.congr (n := s.length) (fun _ _ => rfl) (List.getElem?_eq_some_iff.1 he).1 (hs i e he) (h.block _ ((hr.ent i e he).lt hlv)) h.size (hr.ent i e he)
theorem Same.alloc (w : World) (o : Obj) : Same w (w.alloc o) := ⟨rfl, rfl, rfl, by simp, fun b hb => Go.RowKit.Below.heap_alloc _ _ _ hb⟩
theorem Same.ext {ρ : Rho} {s : Sto} {w w' : World} (h : Same w w') : Ext s ρ w s ρ w' := ⟨Nat.le_refl _, fun _ _ => rfl, fun i e he ho => .inl ⟨i, e, he, ho, rfl⟩, h.os, h.tape, h.output, h.size, fun b hb _ => h.block b hb⟩
/-- The statement is entered. -/
theorem enter_loop {r : Option Nat} {B : Nat} {ρ : Rho} {s : Sto} {w : World} (hf : Fo r B Δ ρ s w) (fn : FuncId) (tmps : Array Value) (ps : Array Tmp) (asg body : Code) :
    ∃ (wB : World) (ms : List Nat) (rc : Loop), (Instr.enterLoop fn tmps ps asg body r).run P w = .ok (wB.heap.size, ms.map markD) (wB.alloc (.loop rc)) ∧ Same w wB ∧ ms.Nodup ∧ (∀ b ∈ ms, w.heap.size ≤ b ∧ wB.heap[b]? = some (.deferred (some []))) ∧
      rc.state = .ready ∧ rc.pending = none ∧ rc.tmps = tmps ∧ rc.params = ps ∧ rc.assign = asg ∧ rc.body = body := by
  cases r with
  | none =>
    refine ⟨w.alloc (.deferred (some [])), [w.heap.size], { state := .ready, pending := none, fn := fn, tmps := tmps, params := ps, assign := asg, body := body, defers := w.heap.size }, ?_, Same.alloc _ _, by simp, fun b hb => ?_, rfl, rfl, rfl, rfl, rfl, rfl⟩
    · rw [run_enterLoop_outer]
      simp [markD, World.size_alloc]
    · obtain rfl : b = w.heap.size := by simpa using hb
      exact ⟨Nat.le_refl _, World.alloc_heap_new _ _⟩
  | some l0 =>
    obtain ⟨rc0, h1, _⟩ := hf.round l0 rfl
    exact ⟨w, [], { state := .ready, pending := none, fn := fn, tmps := tmps, params := ps, assign := asg, body := body, defers := rc0.defers }, run_enterLoop_inner h1 fn tmps ps asg body, Same.refl w, List.nodup_nil, fun b hb => (by cases hb), rfl, rfl, rfl, rfl, rfl, rfl⟩
include hno
theorem range_sound {C : Ch R} (hC : ∀ f args s K, T (C f args s K) → TgOk P f args s fun r s => T (K r s)) {g : Operand} {ps : Array Tmp} {asg body : Code} {n : Nat} {e : List (Nat × V)} {s : Sto} {K : Ex → St → R} (h : T (rfL no P C g ps asg body n e s K)) : CodeOk P (.rangeFunc g ps asg body) ⟨n, e, s⟩ fun e s => T (K e s) := by
  unfold rfL at h
  obtain ⟨fv, hfv, h⟩ := Wi.out hno h
  split at h
  case h_2 => exact (hno h).elim
  rename_i f first cap hnf
  split at h
  case h_2 => exact (hno h).elim
  rename_i hlt
  have hlt : f < P.funcs.size := by simpa using hlt
  simp only [flA_eq] at h
  have hcall := (hC _ _ _ _ h).call hlt
  refine ⟨fun r B Δ ρ a w hs hf => wpIn_rangeFunc fun fn _ => ?_⟩
  obtain ⟨e1, e2⟩ := hs.eval hfv
  have e3 : a.eval g = .func (.func f) (absL ρ first).toArray (absL ρ cap).toArray := by rw [e1, ← abs_nf, hnf]; rfl
  have hfb : bdL s.length first ∧ bdL s.length cap := by have := bd_nf e2; rw [hnf] at this; exact this
  obtain ⟨wB, ms, rc, k1, k2, k3, k4, k5, k6, k7, k8, k9, k10⟩ := enter_loop (P := P) hf fn a.tmps ps asg body
  have repB := hs.rep.same hs.sb k2
  have hlp : (Ent.lp e n ps asg body none).bd s.length := fun t v hv => hs.bd t v hv
  have hpush : ∀ j, j < s.length → (ρ.push s.length wB.heap.size) j = ρ j := fun j hj => Rho.push_lt hj
  obtain ⟨q1, q2, q3⟩ := repB.alloc (e := .lp e n ps asg body none) (o := .loop rc) hs.sb rfl hlp ⟨rc, by rw [Rho.push_at]; exact World.alloc_heap_new _ _, k5, k6, k8, k9, k10, by rw [k7]; exact hs.size, fun t v hv => by
    rw [k7, V.abs_congr hpush v (hs.bd t v hv)]; exact hs.tmps t v hv⟩
  have E0 : Ext s ρ w (s ++ [.lp e n ps asg body none]) (ρ.push s.length wB.heap.size) (wB.alloc (.loop rc)) := k2.ext.trans q2
  have hyl : (V.yld s.length).abs (ρ.push s.length wB.heap.size) = .func (.yield wB.heap.size) #[] #[] := by simp only [V.abs, Rho.push_at]
  have hargs : (absL (ρ.push s.length wB.heap.size) (first ++ [.yld s.length] ++ cap)).toArray = (absL ρ first).toArray ++ #[.func (.yield wB.heap.size) #[] #[]] ++ (absL ρ cap).toArray := by
    rw [absL_append, absL_append, absL_congr hpush first hfb.1, absL_congr hpush cap hfb.2]
    simp [absL, hyl]
  have hle : s.length ≤ (s ++ [Ent.lp e n ps asg body none]).length := by simp
  have hbd : bdL (s ++ [Ent.lp e n ps asg body none]).length (first ++ [.yld s.length] ++ cap) := by
    refine bdL_append.2 ⟨bdL_append.2 ⟨bdL_mono hle _ hfb.1, ?_⟩, bdL_mono hle _ hfb.2⟩
    simp [bdL, V.bd]
  refine ⟨wB.heap.size, ms.map markD, wB.alloc (.loop rc), { target := .fn (.func f) (absL ρ cap).toArray, args := (absL ρ first).toArray ++ #[.func (.yield wB.heap.size) #[] #[]] }, wB.alloc (.loop rc), f, (absL (ρ.push s.length wB.heap.size) (first ++ [.yld s.length] ++ cap)).toArray, wB.alloc (.loop rc), k1, ?_, fun _ _ => trivial, ?_, fun hh => (by cases hh), ?_⟩
  · rw [show resolve a.eval (rangeCall g wB.heap.size) 0 = Deferred.ofValue (a.eval g) (#[Operand.const (.func (.yield wB.heap.size) #[] #[])].map a.eval) from rfl, e3]
    simp [Deferred.ofValue, Act.eval]
  · simp only [invoke]
    rw [hargs]
    exact hcall.plain _ _
  · refine callsIn_fr.2 ((hcall.run _ _ q1 q3 hbd).mono ?_)
    rintro x w3 ⟨res, s2, ρ2, rfl, hk, r1, r2, r3, r4⟩
    cases res with
    | pan v => exact (hno hk).elim
    | ret v =>
      dsimp only at hk
      split at hk
      case h_2 => exact (hno hk).elim
      rename_i e' n' ps' asg' body' pend hi2
      have hsl : s.length < (s ++ [Ent.lp e n ps asg body none]).length := by simp
      have hρl : ρ2 s.length = (wB.heap.size, 0) := by rw [r2.same _ hsl, Rho.push_at]
      obtain ⟨rc', g1, g2, g3, _⟩ := r1.ent _ _ hi2
      rw [hρl] at g1
      have hnb : rc'.state ≠ .busy := by rw [g2]; cases pend <;> simp
      have hl2 : s.length < s2.length := (List.getElem?_eq_some_iff.1 hi2).1
      have hρ : ∀ k, k < s.length → ρ2 k = ρ k := fun k hk => by rw [r2.same k (by simp; omega), hpush k hk]
      have hown : ∀ (j : Nat) (ej : Ent), s2[j]? = some ej → ej.live = true → j ≠ s.length → (ρ2 j).1 ≠ wB.heap.size := fun j ej hj ho hne hh => r1.sep _ j _ ej hi2 hj rfl ho (fun e => hne e.symm) (by rw [hρl]; exact hh.symm)
      have get : ∀ (j : Nat) (f : Ent), (s2.set s.length .no)[j]? = some f → f = .no ∨ (j ≠ s.length ∧ s2[j]? = some f) := by
        intro j f hf
        by_cases hij : j = s.length
        · subst hij
          rw [List.getElem?_set_self hl2] at hf
          exact .inl (Option.some.inj hf).symm
        · rw [List.getElem?_set_ne (fun e => hij e.symm)] at hf
          exact .inr ⟨hij, hf⟩
      have hwsz : w.heap.size ≤ wB.heap.size := k2.size
      have repF : Rep ρ2 (s2.set s.length .no) (w3.putObj wB.heap.size (.loop { rc' with state := .exhausted })) := by
        refine ⟨fun j f hf => ?_, fun j k f g hf hg ho hlv hjk => ?_⟩
        · rcases get j f hf with rfl | ⟨hne, hf⟩
          · trivial
          · cases hlv : f.live with
            | false => cases f <;> simp_all [Ent.live, RepE]
            | true => exact RepE.congr (n := s2.length) (fun _ _ => rfl) (List.getElem?_eq_some_iff.1 hf).1 (r3 j f hf) (World.putObj_heap_other (hown j f hf hlv hne)) (by simp) (r1.ent j f hf)
        · rcases get j f hf with rfl | ⟨hne, hf⟩
          · cases ho
          · rcases get k g hg with rfl | ⟨hne', hg⟩
            · cases hlv
            · exact r1.sep j k f g hf hg ho hlv hjk
      have sbF : sbd (s2.set s.length .no) := by
        intro j f hf
        rw [List.length_set]
        rcases get j f hf with rfl | ⟨hne, hf⟩
        · trivial
        · exact r3 j f hf
      have hnl : ∀ b, b < w.heap.size → ∀ (i : Nat) (ei : Ent), (∀ (i : Nat) (e : Ent), s[i]? = some e → e.isOwn = true → (ρ i).1 ≠ b) → (s ++ [Ent.lp e n ps asg body none])[i]? = some ei → ei.isOwn = true → ((ρ.push s.length wB.heap.size) i).1 ≠ b := by
        intro b hb i ei hn hi ho
        rcases Nat.lt_or_ge i s.length with h1 | h1
        · rw [List.getElem?_append_left h1] at hi
          rw [hpush i h1]; exact hn i ei hi ho
        · have : i = s.length := by have := (List.getElem?_eq_some_iff.1 hi).1; simp at this; omega
          subst this
          rw [Rho.push_at]; show wB.heap.size ≠ b; omega
      have extF : Ext s ρ w (s2.set s.length .no) ρ2 (w3.putObj wB.heap.size (.loop { rc' with state := .exhausted })) := by
        refine ⟨by simp; omega, hρ, fun j f hf ho => ?_, ?_, ?_, ?_, ?_, fun b hb hn => ?_⟩
        · rcases get j f hf with rfl | ⟨hne, hf⟩
          · cases ho
          · rcases r2.own j f hf ho with ⟨k, ek, p1, p2, p3⟩ | p1
            · rcases E0.own k ek p1 p2 with ⟨k', e'', p4, p5, p6⟩ | p4
              · exact .inl ⟨k', e'', p4, p5, p6.trans p3⟩
              · exact .inr (by rw [← p3]; exact p4)
            · exact .inr (Nat.le_trans E0.size p1)
        · exact r2.os.trans E0.os
        · exact r2.tape.trans E0.tape
        · exact r2.output.trans E0.output
        · simp only [World.putObj_size]; exact Nat.le_trans E0.size r2.size
        · rw [World.putObj_heap_other (by omega), r2.block b (Nat.lt_of_lt_of_le hb E0.size) fun i ei hi ho => hnl b hb i ei hn hi ho, E0.block b hb hn]
      have foF : Fo r B (ms.map markD ++ Δ) ρ2 (s2.set s.length .no) (w3.putObj wB.heap.size (.loop { rc' with state := .exhausted })) := by
        have old := hf.ext extF
        refine ⟨old.le, ?_, old.round⟩
        obtain ⟨ms0, o1, o2, o3⟩ := old.marks
        obtain ⟨ms1, p1, p2, p3⟩ := hf.marks
        have hms : ms0 = ms1 := by
          have inj : Function.Injective markD := fun a b hab => by simpa [markD] using hab
          have : ∀ (l1 l2 : List Nat), l1.map markD = l2.map markD → l1 = l2 := by
            intro l1
            induction l1 with
            | nil => intro l2 h; cases l2 with
              | nil => rfl
              | cons => cases h
            | cons a l1 ih => intro l2 h; cases l2 with
              | nil => cases h
              | cons b l2 => simp only [List.map_cons, List.cons.injEq] at h; rw [inj h.1, ih l2 h.2]
          exact this _ _ (o1.symm.trans p1)
        subst hms
        refine ⟨ms ++ ms0, by rw [o1, List.map_append], ?_, fun b hb => ?_⟩
        · refine List.nodup_append.2 ⟨k3, o2, fun x hx y hy hxy => ?_⟩
          subst hxy
          have := (k4 x hx).1
          have h2 := (Array.getElem?_eq_some_iff.1 (p3 x hy).2.1).1
          omega
        · rcases List.mem_append.1 hb with hb | hb
          · obtain ⟨m1, m2⟩ := k4 b hb
            have hbB : b < wB.heap.size := (Array.getElem?_eq_some_iff.1 m2).1
            have hn : ∀ (i : Nat) (ei : Ent), (s ++ [Ent.lp e n ps asg body none])[i]? = some ei → ei.isOwn = true → ((ρ.push s.length wB.heap.size) i).1 ≠ b := by
              intro i ei hi ho
              rcases Nat.lt_or_ge i s.length with h1 | h1
              · rw [List.getElem?_append_left h1] at hi
                rw [hpush i h1]
                have := (hs.rep.ent i ei hi).lt (Ent.own_live ho)
                omega
              · have : i = s.length := by have := (List.getElem?_eq_some_iff.1 hi).1; simp at this; omega
                subst this
                rw [Rho.push_at]; show wB.heap.size ≠ b; omega
            have hb1 : b < (wB.alloc (.loop rc)).heap.size := by simp; omega
            obtain ⟨p4, p5⟩ := r2.away hb1 hn
            refine ⟨Nat.le_trans hf.le m1, ?_, fun i ei hi ho => ?_⟩
            · rw [World.putObj_heap_other (by omega), p4, (Same.alloc wB (.loop rc)).block b hbB]
              exact m2
            · rcases get i ei hi with rfl | ⟨_, hi⟩
              · cases ho
              · exact p5 i ei hi ho
          · exact o3 b hb
      have simF : Sim (ms.map markD ++ Δ) ρ2 ⟨n, e, s2.set s.length .no⟩ { a with defers := ms.map markD ++ a.defers } (w3.putObj wB.heap.size (.loop { rc' with state := .exhausted })) := by
        refine ⟨by simp only [hs.defers], hs.size, fun t v hv => ?_, fun t v hv => ?_, repF, sbF⟩
        · rw [V.abs_congr hρ v (hs.bd t v hv)]; exact hs.tmps t v hv
        · rw [List.length_set]; exact V.bd_mono (Nat.le_of_lt hl2) v (hs.bd t v hv)
      refine ⟨pend, _, by rw [← g3]; exact run_endLoop g1 hnb, ?_⟩
      split at hk
      · exact ⟨.normal, ⟨n, e, s2.set s.length .no⟩, ρ2, _, trivial, hk, simF, extF, foF⟩
      · exact wpIn_ret ⟨.ret, ⟨n, e, s2.set s.length .no⟩, ρ2, _, trivial, hk, simF, extF, foF⟩
      · exact wpIn_exit ⟨.exit _, ⟨n, e, s2.set s.length .no⟩, ρ2, _, rfl, hk, simF, extF, foF⟩
      · exact wpIn_goto ⟨.goto _, ⟨n, e, s2.set s.length .no⟩, ρ2, _, rfl, hk, simF, extF, foF⟩
      · exact (hno hk).elim
end
end Go.Proofs.YtllfmafebhifdaaRL
end
section
/- RL: what a region that draws its order, a round, a range over a function come to is one end and one state, whatever is made of them. -/
namespace Go.Proofs.YtllfmafebhifdaaRL
open Go
set_option linter.unusedVariables false
set_option linter.unusedSimpArgs false
def topC {R : Type} (no : R) (D : Dh) : Ch R := fun f args s K => match D f args s with
  | some (r, s') => K r s'
  | none => no
theorem topC_pickD {R : Type} {no : R} {T : R → Prop} (hno : ¬ T no) {D : Dh} : PickD T (topC no D) D := by
  intro f args s K h
  unfold topC at h
  split at h
  · rename_i r s' hd
    exact ⟨r, s', h, hd⟩
  · exact (hno h).elim
/-- Functions alone, no rounds. -/
def onlyC {R : Type} (no : R) (P : Program) (C : Ch R) : Ch R := fun f args s K => match Nat.blt f P.funcs.size with
  | true => C f args s K
  | false => no
section
variable {P : Program} {R : Type} {no : R} {T : R → Prop} {α : Type}
theorem onlyC_pick (hno : ¬ T no) {C : Ch R} {C0 : Ch (Option α)} (hC : PickC T C C0) : PickC T (onlyC no P C) (onlyC none P C0) := by
  intro f args s K h
  unfold onlyC at h ⊢
  split at h
  · rename_i hlt
    obtain ⟨r, s', h1, h2⟩ := hC _ _ _ _ h
    exact ⟨r, s', h1, fun K0 => by exact h2 K0⟩
  · exact (hno h).elim
theorem opValC_pickC (hno : ¬ T no) {Q : Ch R} {Q0 : Ch (Option α)} (hQ : PickC T Q Q0) {op : Op} {e : List (Nat × V)} {s : Sto} {K : V × List Ent × Option (Nat × Ent) → R} (h : T (opValC no P Q op e s K)) : ∃ r, T (K r) ∧ ∀ K0 : V × List Ent × Option (Nat × Ent) → Option α, opValC none P Q0 op e s K0 = K0 r := by
  have mk : ∀ {op : Op} {s0 : Sto} {f : V → Sto → Option (V × List Ent × Option (Nat × Ent))}, T (valOpT no P op e s0 fun v s' => Wi no (f v s') K) → ∃ r, T (K r) ∧ ∀ K0 : V × List Ent × Option (Nat × Ent) → Option α, (valOpT none P op e s0 fun v s' => Wi none (f v s') K0) = K0 r := by
    intro op s0 f h
    obtain ⟨v, s', h1, h2⟩ := valOpT_pick (α := α) hno h
    obtain ⟨r, h3, h4⟩ := Wi.out hno h1
    exact ⟨r, h4, fun K0 => by rw [h2]; simp only [h3, Wi]⟩
  have ma : ∀ {ts : List TypeId} {args : List V} {s0 : Sto} {f : V → Sto → Option (V × List Ent × Option (Nat × Ent))}, T (vAppendE no P ts args s0 fun v s' => Wi no (f v s') K) → ∃ r, T (K r) ∧ ∀ K0 : V × List Ent × Option (Nat × Ent) → Option α, (vAppendE none P ts args s0 fun v s' => Wi none (f v s') K0) = K0 r := by
    intro ts args s0 f h
    obtain ⟨v, s', h1, h2⟩ := vAppendE_pick (α := α) hno h
    obtain ⟨r, h3, h4⟩ := Wi.out hno h1
    exact ⟨r, h4, fun K0 => by rw [h2]; simp only [h3, Wi]⟩
  have mq : ∀ {op : Op}, T (match stillOp op with | true => valOpT no P op e s fun v _ => K (v, [], none) | false => no) → ∃ r, T (K r) ∧ ∀ K0 : V × List Ent × Option (Nat × Ent) → Option α, (match stillOp op with | true => valOpT none P op e s fun v _ => K0 (v, [], none) | false => none) = K0 r := by
    intro op h
    split at h
    · rename_i hs
      obtain ⟨v, s', h1, h2⟩ := valOpT_pick (α := α) hno h
      exact ⟨(v, [], none), h1, fun K0 => by exact h2 _⟩
    · exact (hno h).elim
  have mw : ∀ {x : Option (V × List Ent × Option (Nat × Ent))}, T (Wi no x K) → ∃ r, T (K r) ∧ ∀ K0 : V × List Ent × Option (Nat × Ent) → Option α, Wi none x K0 = K0 r := by
    intro x h
    obtain ⟨r, h3, h4⟩ := Wi.out hno h
    exact ⟨r, h4, fun K0 => by simp only [h3, Wi]⟩
  have gen : ∀ {op : Op}, (opValC no P Q op e s K = match stillOp op with | true => valOpT no P op e s fun v _ => K (v, [], none) | false => no) → (∀ K0 : V × List Ent × Option (Nat × Ent) → Option α, opValC none P Q0 op e s K0 = match stillOp op with | true => valOpT none P op e s fun v _ => K0 (v, [], none) | false => none) → T (opValC no P Q op e s K) → ∃ r, T (K r) ∧ ∀ K0 : V × List Ent × Option (Nat × Ent) → Option α, opValC none P Q0 op e s K0 = K0 r := by
    intro op h1 h2 h
    rw [h1] at h
    obtain ⟨r, h3, h4⟩ := mq h
    exact ⟨r, h3, fun K0 => by rw [h2]; exact h4 K0⟩
  have gen2 : ∀ {op : Op}, (opValC no P Q op e s K = valOpT no P op e (roS s) fun v s' => Wi no (newVal (trimN s (some (v, s')))) K) → (∀ K0 : V × List Ent × Option (Nat × Ent) → Option α, opValC none P Q0 op e s K0 = valOpT none P op e (roS s) fun v s' => Wi none (newVal (trimN s (some (v, s')))) K0) → T (opValC no P Q op e s K) → ∃ r, T (K r) ∧ ∀ K0 : V × List Ent × Option (Nat × Ent) → Option α, opValC none P Q0 op e s K0 = K0 r := by
    intro op h1 h2 h
    rw [h1] at h
    obtain ⟨r, h3, h4⟩ := mk (f := fun v s' => newVal (trimN s (some (v, s')))) h
    exact ⟨r, h3, fun K0 => by rw [h2]; exact h4 K0⟩
  cases op
  case call c =>
    simp only [opValC] at h ⊢
    split at h
    · rename_i b hb
      split at h
      · split at h
        · rename_i args ha
          split at h
          · rename_i hk
            exact mw h
          · rename_i hk
            exact ma h
          · rename_i k hk0 hk1
            split at h
            · rename_i i hi
              split at h
              · rename_i ho
                exact ma (f := fun v s' => app2f s i (some (v, s'))) h
              · exact (hno h).elim
            · exact (hno h).elim
        · exact (hno h).elim
      · rename_i hn
        obtain ⟨r, h1, h2⟩ := mw h
        refine ⟨r, h1, fun K0 => ?_⟩
        exact h2 K0
    · rename_i hb
      obtain ⟨r, s', h1, h2⟩ := callxT_pick (α := α) hno hQ h
      cases r with
      | pan v => exact (hno h1).elim
      | ret v =>
        obtain ⟨q, h3, h4⟩ := Wi.out hno h1
        refine ⟨q, h4, fun K0 => ?_⟩
        have e0 : callxT none P Q0 c e (roS s) (fun v s' => Wi none (newVal (trimN s (some (v, s')))) K0) (fun _ _ => none) = K0 q := by
          rw [h2]
          simp only [resK, h3, Wi]
        cases hc : c.callee with
        | builtin b => exact (hb b hc).elim
        | _ => exact e0
  case store t a x =>
    simp only [opValC] at h ⊢
    split at h
    · rename_i i hi
      exact mk (f := fun v s' => chgVal s i (some (v, s'))) h
    · exact (hno h).elim
  case mapUpdate t a x y =>
    simp only [opValC] at h ⊢
    split at h
    · rename_i i hi
      exact mk (f := fun v s' => chgVal s i (some (v, s'))) h
    · exact (hno h).elim
  case alloc => exact gen2 rfl (fun _ => rfl) h
  case box => exact gen2 rfl (fun _ => rfl) h
  case buildSlice => exact gen2 rfl (fun _ => rfl) h
  case makeSlice => exact gen2 rfl (fun _ => rfl) h
  case makeMap => exact gen2 rfl (fun _ => rfl) h
  all_goals exact gen rfl (fun _ => rfl) h
theorem dqrun_pick (hno : ¬ T no) {Q : Ch R} {Q0 : Ch (Option α)} (hQ : PickC T Q Q0) {n : Nat} {ops : List Oper} {TC : List Nat} {ch : List (Nat × Nat)} {s : Sto} {K : List (Nat × V) → List (Nat × Ent) → List (Nat × Nat × Ent) → R} : ∀ {os : List Oper} {j : Nat} {e : List (Nat × V)} {N : List (Nat × Ent)} {Cs : List (Nat × Nat × Ent)}, T (dqrun no P Q n ops TC ch s K os j e N Cs) →
    ∃ e' N' Cs', T (K e' N' Cs') ∧ ∀ K0 : List (Nat × V) → List (Nat × Ent) → List (Nat × Nat × Ent) → Option α, dqrun none P Q0 n ops TC ch s K0 os j e N Cs = K0 e' N' Cs' := by
  intro os
  induction os with
  | nil => intro j e N Cs h; exact ⟨_, _, _, h, fun _ => rfl⟩
  | cons o os ih =>
    intro j e N Cs h
    simp only [dqrun, fl_eq] at h
    rcases vWantedT_pick (α := α) hno h with ⟨e', h, hw⟩ | ⟨e', h, hw⟩
    · obtain ⟨r, h1, h2⟩ := opValC_pickC hno hQ h
      split at h1
      · rename_i hok
        obtain ⟨e2, N2, C2, h3, h4⟩ := ih h1
        exact ⟨e2, N2, C2, h3, fun K0 => by simp only [dqrun, fl_eq, hw, h2, hok]; exact h4 K0⟩
      · exact (hno h1).elim
    · obtain ⟨e2, N2, C2, h3, h4⟩ := ih h
      exact ⟨e2, N2, C2, h3, fun K0 => by simp only [dqrun, fl_eq, hw]; exact h4 K0⟩
theorem dq2_pick (hno : ¬ T no) {Q : Ch R} {Q0 : Ch (Option α)} (hQ : PickC T Q Q0) {n : Nat} {ops : List Oper} {TC : List Nat} {s : Sto} {K : List (Nat × V) → Sto → R} {l : List Oper} {e : List (Nat × V)} (h : T (dq2 no P Q n ops TC s K l e)) :
    ∃ e' s', T (K e' s') ∧ ∀ K0 : List (Nat × V) → Sto → Option α, dq2 none P Q0 n ops TC s K0 l e = K0 e' s' := by
  unfold dq2 at h ⊢
  obtain ⟨e1, N1, C1, h1, h2⟩ := dqrun_pick hno hQ h
  cases C1 with
  | nil =>
    cases N1 with
    | nil => exact ⟨_, _, h1, fun K0 => by rw [h2]⟩
    | cons p N1 =>
      simp only [flA_eq] at h1
      exact ⟨_, _, h1, fun K0 => by rw [h2]; simp only [flA_eq]⟩
  | cons c cs =>
    simp only [fl_eq] at h1
    obtain ⟨e3, N3, C3, h3, h4⟩ := dqrun_pick hno hQ h1
    split at h3
    · rename_i hck
      rw [flA_eq] at h3
      exact ⟨_, _, h3, fun K0 => by rw [h2]; simp only [fl_eq]; rw [h4]; simp only [hck, flA_eq]⟩
    · exact (hno h3).elim
theorem drwDT_pick (hno : ¬ T no) {C : Ch R} {C0 : Ch (Option α)} (hC : PickC T C C0) {Q : Ch R} {Q0 : Ch (Option α)} (hQ : PickC T Q Q0) {ops : List Oper} {K : Ex → St → R} {n : Nat} {e : List (Nat × V)} {s : Sto} (h : T (drwDT no P C Q ops K n e s)) :
    ∃ x st', T (K x st') ∧ ∀ K0 : Ex → St → Option α, drwDT none P C0 Q0 ops K0 n e s = K0 x st' := by
  unfold drwDT at h ⊢
  split at h
  · exact (hno h).elim
  rename_i hok
  rw [flA_eq] at h
  split at h
  · exact (hno h).elim
  rename_i htc
  obtain ⟨e1, s1, h1, h2⟩ := dq2_pick hno hQ h
  obtain ⟨x, st', h3, h4⟩ := evOpsT_pick hno hC h1
  exact ⟨x, st', h3, fun K0 => by simp only [hok, flA_eq, htc, h2]; exact h4 K0⟩
theorem rnd_pick (hno : ¬ T no) {C : Ch R} {C0 : Ch (Option α)} (hC : PickC T C C0) {L : Lh R} {L0 : Lh (Option α)} (hL : PickL T L L0) {i : Nat} {args : List V} {s : Sto} {K : Res → Sto → R} (h : T (rnd no P C L i args s K)) :
    ∃ r s', T (K r s') ∧ ∀ K0 : Res → Sto → Option α, rnd none P C0 L0 i args s K0 = K0 r s' := by
  unfold rnd at h ⊢
  split at h
  · rename_i e n ps asg body hi
    split at h
    · rename_i hn
      rw [fl_eq, flA_eq] at h
      obtain ⟨x, st1, h1, h2⟩ := Ev_pick hno hC hL h
      cases x
      case normal =>
        obtain ⟨y, st2, h3, h4⟩ := Ev_pick hno hC hL h1
        cases y
        case panic => exact (hno h3).elim
        all_goals
          simp only [flA_eq] at h3
          exact ⟨_, _, h3, fun K0 => by simp only [hi, hn, fl_eq, flA_eq, h2, h4]⟩
      all_goals exact (hno h1).elim
    · exact (hno h).elim
  · exact (hno h).elim
theorem rfL_pick (hno : ¬ T no) {C : Ch R} {C0 : Ch (Option α)} (hC : PickC T C C0) {L : Lh R} {g : Operand} {ps : Array Tmp} {asg body : Code} {n : Nat} {e : List (Nat × V)} {s : Sto} {K : Ex → St → R} {L0 : Lh (Option α)} (h : T (rfL no P C g ps asg body n e s K)) :
    ∃ x st', T (K x st') ∧ ∀ K0 : Ex → St → Option α, rfL none P C0 g ps asg body n e s K0 = K0 x st' := by
  unfold rfL at h ⊢
  obtain ⟨fv, e1, h⟩ := Wi.out hno h
  split at h
  · rename_i f first cap hf
    split at h
    · rename_i hlt
      rw [flA_eq] at h
      obtain ⟨r, s2, h1, h2⟩ := hC _ _ _ _ h
      cases r with
      | pan v => exact (hno h1).elim
      | ret v =>
        simp only at h1
        split at h1
        · rename_i a b c d f2 pend hp
          rw [flA_eq] at h1
          split at h1
          all_goals first
            | exact (hno h1).elim
            | exact ⟨_, _, h1, fun K0 => by simp only [e1, Wi, hf, hlt, flA_eq, h2, hp]⟩
        · exact (hno h1).elim
    · exact (hno h).elim
  · exact (hno h).elim
end
end Go.Proofs.YtllfmafebhifdaaRL
end
section
/- RL, twelfth text: code run whole; calls met by what is known of functions. -/
namespace Go.Proofs.YtllfmafebhifdaaRL
open Go
set_option linter.unusedVariables false
set_option linter.unusedSimpArgs false
abbrev RO := Option (Res × Sto)
def onlyF (P : Program) (D : Dh) : Dh := fun f args s => match Nat.blt f P.funcs.size with
  | true => D f args s
  | false => none
/-- Calls and loops, run whole, as deep as n. -/
def cloStep (P : Program) (D : Dh) (p : Ch RO × Lh RO) : Ch RO × Lh RO :=
  (fun f args s K => match D f args s with
    | some (r, s') => K r s'
    | none => match P.funcs[f]? with
      | some fn => match fn.body with
        | some c => match Nat.ble args.length fn.ntmps with
          | true => Ev none P p.1 p.2 c ⟨fn.ntmps, zipArgs 0 args, s⟩ (bodyK none P fn K)
          | false => none
        | none => none
      | none => rnd none P p.1 p.2 (Nat.sub (Nat.sub f P.funcs.size) 1) args s K,
  fun c st K => match c with
    | .loop b => Ev none P p.1 p.2 b st fun e st' => match e with
      | .normal => p.2 (.loop b) st' K
      | e => K e st'
    | .region _ ops true => match st with
      | ⟨n, e, s⟩ => drwDT none P p.1 (topC none (onlyF P fun f args s => p.1 f args s fun r s' => some (r, s'))) ops.toList K n e s
    | .rangeFunc g ps asg body => match st with
      | ⟨n, e, s⟩ => rfL none P p.1 g ps asg body n e s K
    | _ => none)
def clo (P : Program) (D : Dh) (n : Nat) : Ch RO × Lh RO :=
  Nat.rec (fun _ _ _ _ => none, fun _ _ _ => none) (fun _ p => cloStep P D p) n
def namesOk (P : Program) : Bool := P.funcs.all fun fn => !(fn.name == "runtime.NumGoroutine")
theorem names_at {P : Program} (h : namesOk P = true) {f : FuncId} {fn : Func} (hf : P.funcs[f]? = some fn) : (fn.name == "runtime.NumGoroutine") = false := by
  have := (Array.all_eq_true_iff_forall_mem.1 h) fn (Array.mem_of_getElem? hf)
  simpa using this
theorem clo_sound {P : Program} {D : Dh} (hD : DOk P D) (hn : namesOk P = true) (hm : P.follows .mixedOrders = true) : ∀ n,
    (∀ x0 f args s K, (clo P D n).1 f args s K = some x0 → TgOk P f args s fun r s => K r s = some x0) ∧ (∀ x0 c st K, (clo P D n).2 c st K = some x0 → Lu P c st fun e s => K e s = some x0) := by
  intro n
  induction n with
  | zero => exact ⟨fun x0 f args s K h => (by cases h), fun x0 c st K h => (by cases h)⟩
  | succ n ih =>
    obtain ⟨ihC, ihL⟩ := ih
    have hev : ∀ x0 c st K, Ev none P (clo P D n).1 (clo P D n).2 c st K = some x0 → CodeOk P c st fun e s => K e s = some x0 := fun x0 c st K h =>
      Ev.sound (T := fun x => x = some x0) (by simp) (fun f args s K h => ihC x0 f args s K h) (fun c st K h => Lu.sound c st _ (ihL x0 c st K h)) c st K h
    have hq : DOk P (onlyF P fun f args s => (clo P D n).1 f args s fun r s' => some (r, s')) := by
      intro f args s r s' h
      unfold onlyF at h
      split at h
      · rename_i hlt
        exact ((ihC _ _ _ _ _ h).call (by simpa using hlt)).mono fun r2 s2 h2 => by
          simp only [Option.some.injEq, Prod.mk.injEq] at h2
          exact h2
      · cases h
    refine ⟨fun x0 f args s K h => ?_, fun x0 c st K h => ?_⟩
    · have h : (cloStep P D (clo P D n)).1 f args s K = some x0 := h
      simp only [cloStep] at h
      split at h
      · rename_i r s' hd
        exact ((hD _ _ _ _ _ hd).mono fun r2 s2 h2 => by obtain ⟨rfl, rfl⟩ := h2; exact h).tg
      · split at h
        · rename_i fn hf
          split at h
          · rename_i c hc
            split at h
            · rename_i hl
              exact (CallOk.of_code (T := fun x => x = some x0) (by simp) hf (names_at hn hf) hc hl (hev x0 _ _ _ h)).tg
            · cases h
          · cases h
        · rename_i hf
          have hge : P.funcs.size ≤ f := Array.getElem?_eq_none_iff.1 hf
          exact ⟨fun hlt => absurd hlt (Nat.not_lt.2 hge), fun _ => rnd_sound (T := fun x => x = some x0) (by simp) (hev x0) h⟩
    · have h : (cloStep P D (clo P D n)).2 c st K = some x0 := h
      simp only [cloStep] at h
      split at h
      · rename_i b _
        refine LoopOk.next ?_
        have := hev x0 _ _ _ h
        refine ⟨fun r B Δ ρ a w hs hf => wpIn_mono (this.run r B Δ ρ a w hs hf) ?_⟩
        rintro e a' w' ⟨x, st', ρ', Δ', h1, h2, h3, h4, h5⟩
        refine ⟨x, st', ρ', Δ', h1, ?_, h3, h4, h5⟩
        cases x
        · have h3 : (clo P D n).2 (.loop b) st' K = some x0 := h2
          have h4 : LoopOk P b st' fun e s => K e s = some x0 := ihL x0 (.loop b) st' K h3
          exact h4
        all_goals exact h2
      · rename_i id ops
        obtain ⟨sn, se, ss⟩ := st
        exact drwD_sound (T := fun x => x = some x0) (st := ⟨sn, se, ss⟩) (by simp) (fun f args s K h => ihC x0 f args s K h) (topC_pickD (by simp)) hq hm h
      · obtain ⟨sn, se, ss⟩ := st
        exact range_sound (T := fun x => x = some x0) (by simp) (fun f args s K h => ihC x0 f args s K h) h
      · cases h
/-- By hand: calls met by what is known, or one by one. -/
def Cu (P : Program) (D : Dh) : Ch Prop := fun f args s K => match D f args s with
  | some (r, s') => K r s'
  | none => TgOk P f args s K
def Lv (P : Program) (D : Dh) : Lh Prop := fun c st K =>
  match c with
  | .loop b => LoopOk P b st K
  | .region id ops true => match st with
    | ⟨n, e, s⟩ => drwDT False P (Cu P D) (topC False D) ops.toList K n e s
  | c => CodeOk P c st K
theorem Cu.sound {P : Program} {D : Dh} (hD : DOk P D) {f : FuncId} {args : List V} {s : Sto} {K : Res → Sto → Prop} (h : Cu P D f args s K) : TgOk P f args s K := by
  unfold Cu at h
  split at h
  · rename_i r s' hd
    exact ((hD _ _ _ _ _ hd).mono fun r2 s2 h2 => by obtain ⟨rfl, rfl⟩ := h2; exact h).tg
  · exact h
theorem Lv.sound {P : Program} {D : Dh} (hD : DOk P D) (hm : P.follows .mixedOrders = true) {c : Code} {st : St} {K : Ex → St → Prop} (h : Lv P D c st K) : CodeOk P c st K := by
  unfold Lv at h
  split at h
  · exact LoopOk.code h
  · obtain ⟨sn, se, ss⟩ := st
    exact drwD_sound (T := fun p : Prop => p) (st := ⟨sn, se, ss⟩) (fun h => h) (fun _ _ _ _ h => Cu.sound hD h) (topC_pickD (fun h => h)) hD hm h
  · exact h
abbrev EvD (P : Program) (D : Dh) := Ev False P (Cu P D) (Lv P D)
theorem EvD.sound {P : Program} {D : Dh} (hD : DOk P D) (hm : P.follows .mixedOrders = true) {c : Code} {st : St} {K : Ex → St → Prop} (h : EvD P D c st K) : CodeOk P c st K :=
  Ev.sound (T := fun p : Prop => p) (fun h => h) (fun _ _ _ _ h => Cu.sound hD h) (fun _ _ _ h => Lv.sound hD hm h) c st K h
def noD : Dh := fun _ _ _ => none
theorem noD_ok {P : Program} : DOk P noD := fun f args s r s' h => by cases h
end Go.Proofs.YtllfmafebhifdaaRL
end
section
/- RL, thirteenth text: a law's function, computed; what is known of a function at no store at all holds at every store. -/
namespace Go.Proofs.YtllfmafebhifdaaRL
open Go
set_option linter.unusedVariables false
set_option linter.unusedSimpArgs false
/-- What only reads leaves the store. -/
theorem CallOk.quiet {P : Program} {f : FuncId} {args : List V} {s : Sto} {v : V} (h : CallOk P f args (roS s) fun r _ => r = .ret v) (hv : v.bd s.length) : CallOk P f args s fun r s' => r = .ret v ∧ s' = s := by
  refine ⟨h.plain, fun ρ w h1 h2 h3 => (h.run ρ w h1.toRo h2.toRo (by rw [toRo_length]; exact h3)).mono ?_⟩
  rintro e w' ⟨r, s', ρ', rfl, rfl, r1, r2, r3, r4⟩
  obtain ⟨q1, q2⟩ := quiet_ext h1 h2 r2
  refine ⟨.ret v, s, ρ, ?_, ⟨rfl, rfl⟩, q1, q2, h2, hv⟩
  simp only [Res.ending]
  rw [V.abs_congr (fun i hi => r2.same i (by rw [toRo_length]; exact hi)) v hv]
/-- What asks nothing of the store asks nothing of any. -/
theorem CallOk.anywhere {P : Program} {f : FuncId} {args : List V} {s : Sto} {v : V} (h : CallOk P f args [] fun r _ => r = .ret v) (ha : bdL 0 args) (hv : v.bd 0) : CallOk P f args s fun r s' => r = .ret v ∧ s' = s := by
  refine ⟨h.plain, fun ρ w h1 h2 h3 => (h.run ρ w ⟨fun i e he => (by simp at he), fun i j e f he => (by simp at he)⟩ (fun i e he => (by simp at he)) ha).mono ?_⟩
  rintro e w' ⟨r, s', ρ', rfl, rfl, r1, r2, r3, r4⟩
  have hblk : ∀ b, b < w.heap.size → w'.heap[b]? = w.heap[b]? := fun b hb => r2.block b hb fun i e hi => by simp at hi
  refine ⟨.ret v, s, ρ, ?_, ⟨rfl, rfl⟩, ⟨fun i e hi => ?_, h1.sep⟩, ⟨Nat.le_refl _, fun _ _ => rfl, fun i e h ho => .inl ⟨i, e, h, ho, rfl⟩, r2.os, r2.tape, r2.output, r2.size, fun b hb _ => hblk b hb⟩, h2, V.bd_mono (Nat.zero_le _) v hv⟩
  · simp only [Res.ending]
    rw [V.abs_congr (n := 0) (fun i hi => absurd hi (by omega)) v hv]
  · have hr := h1.ent i e hi
    cases hl : e.live with
    | true => exact RepE.congr (n := s.length) (fun _ _ => rfl) (List.getElem?_eq_some_iff.1 hi).1 (h2 i e hi) (hblk _ (hr.lt hl)) r2.size hr
    | false => cases e <;> simp_all [Ent.live, RepE]
/-- What a law's row wants, of arguments without places. -/
theorem CallOk.row {P : Program} {f : FuncId} {args : List V} {xs : Array Value} (h : CallOk P f args [] fun r _ => r = .ret (.raw (.bool true))) (ha : bdL 0 args) (hx : absL (fun _ => (0, 0)) args = xs.toList) (W : World) :
    Calls P f xs W fun e w' => e = .returned (.bool true) ∧ Go.RowKit.Below W.heap.size W w' := by
  have := h.below (ρ := fun _ => (0, 0)) (w := W) (r := .raw (.bool true)) ⟨fun i e he => (by simp at he), fun i j e f he => (by simp at he)⟩ (fun i e he => (by simp at he)) ha (fun i e he => (by simp at he)) trivial
  rw [hx] at this
  exact this
end Go.Proofs.YtllfmafebhifdaaRL
end
section
-- What one law needs of the words of the print (wip/tools/prune.py)
-- PRINTED WORDS (module Derived/Print/Words.lean): go-wishes' parts 1 to 38 and go-gate-2's additions: AI agents of Go's test side, Mon Nov 16 2026; no person has read them. Plain theorems and definitions: no macro, no elab, no axiom.
set_option linter.unusedVariables false
set_option linter.unusedSimpArgs false
namespace Go.Proofs.YtllfmafebhifdaaW.PrintWords
open Go.RowKit

/-- A fact that the walk's simp doesn't look into. -/
structure Aside0 (p : Prop) : Prop where mk :: (out : p)
/-- The world is the old one, some orders having been drawn. -/
structure Drawn0 (w w' : World) : Prop where mk :: (out : ∃ n, w' = w.drewN n)
theorem Drawn0.refl (w : World) : Drawn0 w w := ⟨⟨0, rfl⟩⟩
theorem Drawn0.step {w w' : World} (h : Drawn0 w w') (n : Nat) : Drawn0 w (w'.drewN n) := by
  obtain ⟨m, rfl⟩ := h
  exact ⟨⟨m + n, World.drewN_drewN ..⟩⟩
theorem Drawn0.grown {w w' : World} (h : Drawn0 w w') : Grown w w' := by
  obtain ⟨n, rfl⟩ := h
  induction n with
  | zero => exact Grown.refl _
  | succ n ih => rw [← World.drew_drewN]; exact Grown.drew ih
theorem Drawn0.below {w w' : World} (h : Drawn0 w w') : Below w.heap.size w w' := by
  obtain ⟨n, rfl⟩ := h
  induction n with
  | zero => exact Below.refl _ _
  | succ n ih => rw [← World.drew_drewN]; exact ih.drew


/-! ### 1. Values and lists -/
def bt (s : ByteArray) (i : Int) : Int := if h : i.toNat < s.size then ((s[i.toNat]'h).toNat : Int) else 0
/-! ### 2. The world -/
theorem grown_of_below {w w1 : World} (h : Below w.heap.size w w1) (row : Option Nat) : w.grownBy w1 row := ⟨h.os, h.tape, h.output, h.size, fun i hi _ => h.block i hi⟩
theorem pw_cell_below {w w1 : World} (h : Below w.heap.size w w1) {a : Addr} {v : Value} (hc : w.cell? a = some v) : w1.cell? a = some v := (h.cell (World.block_lt_of_cell? w a hc)).trans hc

/-! ### 3. A slice of whole numbers that is read; nil, empty and other slices alike -/
def ReadsInt (w : World) (k : IntKind) (A : Option Addr) (n : Nat) (xs : List Int) : Prop :=
  xs.length = n ∧ n ≤ 9223372036854775807 ∧ (0 < n → ∃ ad, A = some ad ∧ ∀ j, j < n → w.cell? (ad.add j) = some (.int k (xs.getD j 0)))
theorem ReadsInt.below {w w1 : World} {k : IntKind} {A : Option Addr} {n : Nat} {xs : List Int} (h : ReadsInt w k A n xs) (hb : Below w.heap.size w w1) : ReadsInt w1 k A n xs :=
  ⟨h.1, h.2.1, fun hn => by
    obtain ⟨ad, e, hc⟩ := h.2.2 hn
    exact ⟨ad, e, fun j hj => pw_cell_below hb (hc j hj)⟩⟩

/-! ### 4. A row of the call's own -/
theorem own_nil (W : World) (base : Nat) (e : TypeId) (size : Nat) : W.ownsRow base e size (.slice none 0 0) 0 [] := ⟨by simp, .inl ⟨rfl, rfl⟩⟩
theorem own_base {w : World} {base : Nat} {e : TypeId} {size n : Nat} {v : Value} {xs : List Value} (h : w.ownsRow base e size v n xs) (k : Nat) (hk : v.ownBlock = some k) : base ≤ k := by
  rcases h.2 with ⟨rfl, _⟩ | ⟨g, cap, cur, rfl, hb, _⟩
  · simp [Value.ownBlock] at hk
  · have : g = k := by simpa [Value.ownBlock] using hk
    omega
theorem own_lt {w : World} {base : Nat} {e : TypeId} {size n : Nat} {v : Value} {xs : List Value} (h : w.ownsRow base e size v n xs) (k : Nat) (hk : v.ownBlock = some k) : k < w.heap.size := by
  rcases h.2 with ⟨rfl, _⟩ | ⟨g, cap, cur, rfl, hb, hh, _⟩
  · simp [Value.ownBlock] at hk
  · have : g = k := by simpa [Value.ownBlock] using hk
    subst this
    exact (Array.getElem?_eq_some_iff.1 hh).1
theorem pw_own_below {w w1 : World} {base : Nat} {e : TypeId} {size n : Nat} {v : Value} {xs : List Value} (h : w.ownsRow base e size v n xs) (hb : Below w.heap.size w w1) : w1.ownsRow base e size v n xs :=
  h.kept (grown_of_below hb none) (by cases v.ownBlock <;> simp)
/-! ### 5. append(v, x): behind 'at_builtin'; the goal's world is 'W.alloc' of the variadic's box -/
section
variable {P : Program} {ops : Array Oper} {rest : List Oper} {o : Oper} {a : Act} {Q : Exit → Act → World → Prop}

end

/-! ### 6. make([]T, n), n an Int; a literal -/
section
variable {P : Program}
end
/-! ### 7. v[i] read and v[i] = x, v a row of the call's own: 'obtain ⟨g, cap, rfl, hgb, hgl⟩ := HO.out.form (by omega)' first -/
/-! ### 8. append(v, ys...): ys a slice that is read, nil let in; behind 'at_builtin' -/
section
variable {P : Program} {ops : Array Oper} {rest : List Oper} {o : Oper} {a : Act} {Q : Exit → Act → World → Prop}
end

/-! ### 9. []byte(s): a slice that is read (its row bears a conversion's mark: no row of one's own); cuts of a slice that is read -/
def bytesOf (s : ByteArray) : List Int := s.data.toList.map fun b => (b.toNat : Int)
/-! ### 10. Rounds: more rounds give the same answer; what ends gives a number of rounds -/
/-- Where the first answers, the second answers the same. -/
def LeO {α : Type} (a b : Option α) : Prop := ∀ r, a = some r → b = some r
theorem LeO.refl {α : Type} (a : Option α) : LeO a a := fun _ h => h
theorem LeO.none {α : Type} (b : Option α) : LeO Option.none b := fun _ h => by cases h
theorem LeO.trans {α : Type} {a b c : Option α} (h : LeO a b) (k : LeO b c) : LeO a c := fun r hr => k r (h r hr)
theorem LeO.bind {α β : Type} {a a' : Option α} {f f' : α → Option β} (h : LeO a a') (k : ∀ x, LeO (f x) (f' x)) : LeO (a.bind f) (a'.bind f') := by
  intro r hr
  obtain ⟨x, hx, hf⟩ := Option.bind_eq_some_iff.1 hr
  exact Option.bind_eq_some_iff.2 ⟨x, h x hx, k x r hf⟩
theorem LeO.map {α β : Type} {a a' : Option α} (f : α → β) (h : LeO a a') : LeO (a.map f) (a'.map f) := by
  intro r hr
  obtain ⟨x, hx, hf⟩ := Option.map_eq_some_iff.1 hr
  exact Option.map_eq_some_iff.2 ⟨x, h x hx, hf⟩
theorem more_rounds {α : Type} {g : Nat → Option α} (h : ∀ k, LeO (g k) (g (k + 1))) (k : Nat) : ∀ j, LeO (g k) (g (k + j))
  | 0 => LeO.refl _
  | j + 1 => (more_rounds h k j).trans (h (k + j))
theorem at_rounds {α : Type} {g : Nat → Option α} (h : ∀ k, LeO (g k) (g (k + 1))) {k k' : Nat} (hk : k ≤ k') {r : α} (hr : g k = some r) : g k' = some r := by
  have := more_rounds h k (k' - k) r hr
  rwa [Nat.add_sub_cancel' hk] at this
/-! ### 11. Rows of elements of several cells (structs): read, made. R: what an element's cells say ('RepItem w': printed for each type) -/
def Reps {α : Type} (R : α → List Value → Prop) (size : Nat) (ps : List α) (cs : List Value) : Prop :=
  cs.length = ps.length * size ∧ ∀ j p, ps[j]? = some p → R p ((cs.drop (j * size)).take size)
theorem Reps.none {α : Type} (R : α → List Value → Prop) (size : Nat) : Reps R size [] [] := ⟨by simp, fun j p h => by simp at h⟩
theorem Reps.snoc {α : Type} {R : α → List Value → Prop} {size : Nat} {ps : List α} {cs c : List Value} {p : α} (h : Reps R size ps cs) (hp : R p c) (hc : c.length = size) : Reps R size (ps ++ [p]) (cs ++ c) := by
  refine ⟨by rw [List.length_append, h.1, hc, List.length_append, List.length_singleton, Nat.add_mul, Nat.one_mul], fun j q hq => ?_⟩
  rcases Nat.lt_or_ge j ps.length with hj | hj
  · rw [List.getElem?_append_left hj] at hq
    have h1 : j * size + size ≤ cs.length := by rw [h.1, ← Nat.succ_mul]; exact Nat.mul_le_mul_right _ hj
    have h2 := h.2 j q hq
    rw [List.drop_append_of_le_length (by omega), List.take_append_of_le_length (by rw [List.length_drop]; omega)]
    exact h2
  · have hj' : j = ps.length := by
      have := (List.getElem?_eq_some_iff.1 hq).1
      rw [List.length_append, List.length_singleton] at this
      omega
    subst hj'
    have hq' : p = q := by simpa using hq
    subst hq'
    rw [← h.1, List.drop_left, ← hc, List.take_length]
    exact hp
theorem Reps.imp_ {α : Type} {R R' : α → List Value → Prop} {size : Nat} {ps : List α} {cs : List Value} (h : Reps R size ps cs) (hR : ∀ p c, R p c → R' p c) : Reps R' size ps cs := ⟨h.1, fun j p hj => hR _ _ (h.2 j p hj)⟩

def ReadsRow {α : Type} (R : α → List Value → Prop) (size : Nat) (w : World) (A : Option Addr) (n : Nat) (ps : List α) : Prop :=
  ps.length = n ∧ n ≤ 9223372036854775807 ∧ (0 < n → ∃ ad, A = some ad ∧ ∀ j p, ps[j]? = some p → ∃ c, c.length = size ∧ R p c ∧ ∀ i u, c[i]? = some u → w.cell? (ad.add (j * size + i)) = some u)
theorem ReadsRow.imp_ {α : Type} {R R' : α → List Value → Prop} {size : Nat} {w w1 : World} {A : Option Addr} {n : Nat} {ps : List α} (h : ReadsRow R size w A n ps) (hb : Below w.heap.size w w1) (hR : ∀ p c, R p c → R' p c) : ReadsRow R' size w1 A n ps :=
  ⟨h.1, h.2.1, fun hn => by
    obtain ⟨ad, e, hc⟩ := h.2.2 hn
    refine ⟨ad, e, fun j p hj => ?_⟩
    obtain ⟨c, hs, hr, hcell⟩ := hc j p hj
    exact ⟨c, hs, hR _ _ hr, fun i u hu => pw_cell_below hb (hcell i u hu)⟩⟩
theorem own_reads_row {α : Type} {R : α → List Value → Prop} {w : World} {base n size : Nat} {e : TypeId} {v : Value} {ps : List α} {cs : List Value} (h : w.ownsRow base e size v n cs) (hR : Reps R size ps cs) (hn : ps.length = n) :
    ∃ A c, v = .slice A n c ∧ ReadsRow R size w A n ps := by
  rcases Nat.eq_zero_or_pos n with h0 | h0
  · rcases h.2 with ⟨rfl, rfl⟩ | ⟨g, cap, cur, rfl, _⟩
    · exact ⟨none, 0, rfl, hn, by omega, fun hp => absurd hp (by omega)⟩
    · exact ⟨_, cap, rfl, hn, by omega, fun hp => absurd hp (by omega)⟩
  · obtain ⟨g, cap, rfl, _, _⟩ := h.form h0
    have hm : n ≤ 9223372036854775807 := by
      rcases h.2 with ⟨_, h1⟩ | ⟨g', cap', cur, he, _, _, h1, h2, _⟩
      · omega
      · simp only [maxLen] at h2
        omega
    refine ⟨_, cap, rfl, hn, hm, fun _ => ⟨_, rfl, fun j p hj => ⟨(cs.drop (j * size)).take size, ?_, hR.2 j p hj, fun i u hu => ?_⟩⟩⟩
    · have hjl := (List.getElem?_eq_some_iff.1 hj).1
      have h1 : j * size + size ≤ cs.length := by rw [hR.1, ← Nat.succ_mul]; exact Nat.mul_le_mul_right _ hjl
      rw [List.length_take, List.length_drop]
      omega
    · refine h.cells (g := g) rfl _ u ?_
      rw [List.getElem?_take] at hu
      split at hu
      · rw [List.getElem?_drop] at hu
        exact hu
      · cases hu
section
variable {P : Program} {ops : Array Oper} {rest : List Oper} {o : Oper} {a : Act} {Q : Exit → Act → World → Prop}
/-- append(v, x), x of several cells; behind 'at_builtin'; the goal's world is 'W.alloc' of the variadic's box. -/
theorem print_append_cells {w0 W : World} (base : Nat) (hgd : o.guard = none) (s x : Operand) (t e : TypeId) (z : Value) (size bytes : Nat)
    (ho : o.op = .call { callee := .builtin .append, args := #[s, x], argTypes := #[t, t] })
    (ht : P.underlying t = some (.slice e)) (hinfo : (P.info? e).map (fun i => (i.zero, i.size, i.bytes)) = some (some z, size, bytes)) (hz : z.cells.size = size) (hs0 : 0 < size) (hb0 : 0 < bytes)
    (v : Value) (n : Nat) (xs ys : List Value) (hs : a.eval s = v) (hx : a.eval x = .slice (some ⟨W.heap.size, 0, none⟩) 1 1) (hys : ys.length = size) (h1 : ∀ u ∈ ys, u.oneCell' = true)
    (HO : W.ownsRow base e size v n xs) (HB : Below base w0 W) (hbase : base ≤ W.heap.size) (hl : (n + 1) * bytes ≤ 140737488355328)
    (h : ∀ v1 w1, w1.ownsRow base e size v1 (n + 1) (xs ++ ys) → Below base w0 w1 → W.grownBy w1 v.ownBlock → (v1.ownBlock = v.ownBlock ∨ ∃ b, v1.ownBlock = some b ∧ W.heap.size ≤ b) → wpList P ops Q rest (a.put o.dst v1) w1) :
    wpList P ops Q (o :: rest) a (W.alloc (.cells ys.toArray e)) := by
  obtain ⟨i0, hi, hzz⟩ := Option.map_eq_some_iff.1 hinfo
  simp only [Prod.mk.injEq] at hzz
  obtain ⟨hz0, hz1, hz2⟩ := hzz
  have hlen : n + 1 ≤ 140737488355328 := Nat.le_trans (Nat.le_mul_of_pos_right _ hb0) hl
  refine wpList_append_own_at (W.alloc (.cells ys.toArray e)) hgd s x t ho base e i0 z size bytes ht hi hz0 hz1 hz2 hz hs0 v n xs hs (HO.alloc _) ⟨W.heap.size, 0, none⟩ 1 1 ys hx (by rw [hys]; simp)
    (by simpa using World.news_of_block (cs := ys.toArray) (t := e) (fr := (0, 0)) (heap_alloc_new W (.cells ys.toArray e))) h1 (by simp only [maxLen]; omega) hl (by simp; omega) ?_
  intro v1 w1 hown hg _ hat
  refine h v1 w1 hown ((HB.alloc hbase _).grown hg (by simp; omega) (own_base HO)) (World.grownBy.trans (World.grownBy_alloc W _ _) hg) ?_
  rcases hat with hat | hat
  · exact .inl hat
  · exact .inr ⟨_, hat, by simp⟩
end

/-! ### 12. A block of one's own that is a state: its cells, what a store leaves -/
theorem own_ne {w : World} {base : Nat} {e t : TypeId} {size n g : Nat} {v : Value} {xs : List Value} {cs : Array Value} (h : w.ownsRow base e size v n xs) (hg : w.heap[g]? = some (.cells cs t (0, 0))) (hne : e ≠ t) : some g ≠ v.ownBlock := by
  rcases h.2 with ⟨rfl, _⟩ | ⟨g', cap, cur, rfl, _, hh, _⟩
  · simp [Value.ownBlock]
  · intro he
    have : g = g' := by simpa [Value.ownBlock] using he
    subst this
    rw [hg] at hh
    injection hh with hh
    injection hh with _ ht
    exact hne ht.symm
theorem blk_lt {w : World} {g : Nat} {o : Obj} (h : w.heap[g]? = some o) : g < w.heap.size := (Array.getElem?_eq_some_iff.1 h).1
/-! ### 13. Two states at once: what a call on the state at block g (its row before: 'row') has turned -/
def KeepBut (w w' : World) (g : Nat) (row : Option Nat) : Prop := w.heap.size ≤ w'.heap.size ∧ ∀ i, i < w.heap.size → i ≠ g → some i ≠ row → w'.heap[i]? = w.heap[i]?
theorem KeepBut.refl (w : World) (g : Nat) (row : Option Nat) : KeepBut w w g row := ⟨Nat.le_refl _, fun _ _ _ _ => rfl⟩
theorem KeepBut.trans {w w1 w2 : World} {g : Nat} {row row1 : Option Nat} (h : KeepBut w w1 g row) (k : KeepBut w1 w2 g row1) (hr : row1 = row ∨ ∃ b, row1 = some b ∧ w.heap.size ≤ b) : KeepBut w w2 g row :=
  ⟨Nat.le_trans h.1 k.1, fun i hi hg hn => by
    refine (k.2 i (Nat.lt_of_lt_of_le hi h.1) hg ?_).trans (h.2 i hi hg hn)
    rcases hr with rfl | ⟨b, rfl, hb⟩
    · exact hn
    · intro e
      injection e with e
      omega⟩
/-- Another block, another row: they live on. -/
theorem KeepBut.blk {w w1 : World} {g g' : Nat} {row : Option Nat} {o : Obj} (h : KeepBut w w1 g row) (hb : w.heap[g']? = some o) (hg : g' ≠ g) (hr : some g' ≠ row) : w1.heap[g']? = some o := (h.2 g' (blk_lt hb) hg hr).trans hb
theorem KeepBut.own {w w1 : World} {g : Nat} {row : Option Nat} {base : Nat} {e : TypeId} {size n : Nat} {v : Value} {xs : List Value} (h : KeepBut w w1 g row) (ho : w.ownsRow base e size v n xs) (hg : v.ownBlock ≠ some g) (hr : v.ownBlock = none ∨ v.ownBlock ≠ row) : w1.ownsRow base e size v n xs := by
  obtain ⟨h1, h2⟩ := ho
  refine ⟨h1, ?_⟩
  rcases h2 with h2 | ⟨b, cap, cur, rfl, hb, hh, r⟩
  · exact .inl h2
  · refine .inr ⟨b, cap, cur, rfl, hb, h.blk hh ?_ ?_, r⟩
    · intro e
      exact hg (by rw [← e]; rfl)
    · rcases hr with hr | hr
      · simp [Value.ownBlock] at hr
      · exact hr
/-! ### 10b. From some number of rounds on -/
def Ev {α : Type} (g : Nat → Option α) (r : α) : Prop := ∃ K, ∀ k, K ≤ k → g k = some r
theorem Ev.of {α : Type} {g : Nat → Option α} {r : α} (hg : ∀ k, LeO (g k) (g (k + 1))) {k : Nat} (h : g k = some r) : Ev g r := ⟨k, fun _ hk => at_rounds hg hk h⟩
theorem Ev.bind {α β : Type} {g : Nat → Option α} {f : Nat → α → Option β} {a : α} {r : β} (h : Ev g a) (k : Ev (fun n => f n a) r) : Ev (fun n => (g n).bind (f n)) r := by
  obtain ⟨K, h⟩ := h
  obtain ⟨K', k⟩ := k
  refine ⟨max K K', fun n hn => ?_⟩
  have h1 := h n (by omega)
  have h2 := k n (by omega)
  simp only [h1, Option.bind_some]
  exact h2
/-- One round of a loop. -/
theorem Ev.step {α : Type} {g f : Nat → Option α} {r : α} (h : ∀ k, g (k + 1) = f k) (k : Ev f r) : Ev g r := by
  obtain ⟨K, k⟩ := k
  refine ⟨K + 1, fun n hn => ?_⟩
  obtain ⟨m, rfl⟩ : ∃ m, n = m + 1 := ⟨n - 1, by omega⟩
  rw [h]
  exact k m (by omega)
theorem Ev.congr {α : Type} {g f : Nat → Option α} {r : α} (h : ∀ k, g k = f k) (k : Ev f r) : Ev g r := by
  obtain ⟨K, k⟩ := k
  exact ⟨K, fun n hn => (h n).trans (k n hn)⟩
/-! ### 14. append as_ one step of a region that draws its order: for 'go_region_law' (and a region walked by hand) -/
section
variable {P : Program} {ops : Array Oper} {o : Oper} {a : Act} {Q : Exit → Act → World → Prop} {K : Act → World → Prop}
end
/-! ### 15. A row's base may be lowered -/
theorem own_weaken {w : World} {base base' : Nat} {e : TypeId} {size n : Nat} {v : Value} {xs : List Value} (h : w.ownsRow base e size v n xs) (hb : base' ≤ base) : w.ownsRow base' e size v n xs := by
  obtain ⟨h1, h2⟩ := h
  refine ⟨h1, ?_⟩
  rcases h2 with h2 | ⟨g, cap, cur, rfl, hg, r⟩
  · exact .inl h2
  · exact .inr ⟨g, cap, cur, rfl, Nat.le_trans hb hg, r⟩
/-! ### 16. Parts 3 to 9 for ANY element of one cell: 'enc' (Value.int k, Value.string, Value.bool), a default 'd' -/
section
variable {α : Type} {enc : α → Value} {d : α}
def ReadsOf (enc : α → Value) (d : α) (w : World) (A : Option Addr) (n : Nat) (xs : List α) : Prop :=
  xs.length = n ∧ n ≤ 9223372036854775807 ∧ (0 < n → ∃ ad, A = some ad ∧ ∀ j, j < n → w.cell? (ad.add j) = some (enc (xs.getD j d)))
theorem ReadsOf.below {w w1 : World} {A : Option Addr} {n : Nat} {xs : List α} (h : ReadsOf enc d w A n xs) (hb : Below w.heap.size w w1) : ReadsOf enc d w1 A n xs :=
  ⟨h.1, h.2.1, fun hn => by
    obtain ⟨ad, e, hc⟩ := h.2.2 hn
    exact ⟨ad, e, fun j hj => pw_cell_below hb (hc j hj)⟩⟩
end
section
variable {α : Type} {P : Program} {ops : Array Oper} {rest : List Oper} {o : Oper} {a : Act} {Q : Exit → Act → World → Prop}
end

/-! ### 17. Rows of one element type held at once: no two share a block -/
/-! ### 18. A block behind a new one; behind a draw -/
/-! ### 19. Results that lie in memory beside others -/
section
variable {P : Program}
end
/-! ### 20. Rows of elements of any kind: R is what an element's cells say -/
theorem own_le {w : World} {base n m c size : Nat} {e : TypeId} {A : Option Addr} {xs : List Value} (h : w.ownsRow base e size (.slice A m c) n xs) : m ≤ c := by
  rcases h.2 with ⟨he, _⟩ | ⟨g, cap, cur, he, _, _, hnc, _⟩
  · injection he with _ h2 h3
    omega
  · injection he with _ h2 h3
    omega
def OwnRow {α : Type} (R : α → List Value → Prop) (e : TypeId) (size : Nat) (w : World) (base : Nat) (v : Value) (ps : List α) : Prop :=
  ∃ inner, w.ownsRow base e size v ps.length inner ∧ Reps R size ps inner
section
variable {α : Type} {R R' : α → List Value → Prop} {e : TypeId} {size : Nat} {w w1 : World} {base : Nat} {v : Value} {ps : List α}
theorem OwnRow.none_ (R : α → List Value → Prop) (e : TypeId) (size : Nat) (w : World) (base : Nat) : OwnRow R e size w base (.slice none 0 0) [] := ⟨[], own_nil _ _ _ _, Reps.none _ _⟩
theorem OwnRow.imp_ (h : OwnRow R e size w base v ps) (hR : ∀ p c, R p c → R' p c) : OwnRow R' e size w base v ps := by
  obtain ⟨inner, ho, hr⟩ := h
  exact ⟨inner, ho, hr.imp_ hR⟩
theorem OwnRow.below (h : OwnRow R e size w base v ps) (hb : Below w.heap.size w w1) : OwnRow R e size w1 base v ps := by
  obtain ⟨inner, ho, hr⟩ := h
  exact ⟨inner, pw_own_below ho hb, hr⟩
theorem OwnRow.keep (h : OwnRow R e size w base v ps) {g : Nat} {t : TypeId} {cells : Array Value} (hb : w.heap[g]? = some (.cells cells t (0, 0))) (ht : e ≠ t) (hk : KeepBut w w1 g none) : OwnRow R e size w1 base v ps := by
  obtain ⟨inner, ho, hr⟩ := h
  exact ⟨inner, hk.own ho (Ne.symm (own_ne ho hb ht)) (by cases v.ownBlock <;> simp), hr⟩
theorem OwnRow.reads (h : OwnRow R e size w base v ps) : ∃ A c, v = .slice A ps.length c ∧ ps.length ≤ c ∧ ReadsRow R size w A ps.length ps := by
  obtain ⟨inner, ho, hr⟩ := h
  obtain ⟨A, c, rfl, hrow⟩ := own_reads_row ho hr rfl
  exact ⟨A, c, rfl, own_le ho, hrow⟩
/-- A literal: the elements' cells one behind the other. -/
theorem OwnRow.lit (W : World) (base : Nat) {inner : List Value} (hr : Reps R size ps inner) (hb : base ≤ W.heap.size) (hm : ps.length ≤ 9223372036854775807) :
    OwnRow R e size (W.alloc (.cells inner.toArray e)) base (.slice (some ⟨W.heap.size, 0, none⟩) ps.length ps.length) ps := by
  have h := World.ownsRow_lit (base := base) (e := e) (size := size) W inner.toArray ps.length hb (by simpa [maxLen] using hm) (by simpa using hr.1)
  exact ⟨inner, by simpa using h, hr⟩
end
section
variable {P : Program} {ops : Array Oper} {rest : List Oper} {o : Oper} {a : Act} {Q : Exit → Act → World → Prop} {α : Type} {R : α → List Value → Prop}
/-- append(v, x): x's cells are cs. R is that of the world AHEAD; move it over hg ('OwnRow.imp_'). -/
theorem OwnRow.append {w0 W : World} (base : Nat) (hgd : o.guard = none) (s x : Operand) (t e : TypeId) (z : Value) (size bytes : Nat)
    (ho : o.op = .call { callee := .builtin .append, args := #[s, x], argTypes := #[t, t] })
    (ht : P.underlying t = some (.slice e)) (hinfo : (P.info? e).map (fun i => (i.zero, i.size, i.bytes)) = some (some z, size, bytes)) (hz : z.cells.size = size) (hs0 : 0 < size) (hb0 : 0 < bytes)
    (v : Value) (ps : List α) (p : α) (cs : List Value) (hs : a.eval s = v) (hx : a.eval x = .slice (some ⟨W.heap.size, 0, none⟩) 1 1) (hp : R p cs) (hcs : cs.length = size) (h1 : ∀ u ∈ cs, u.oneCell' = true)
    (HO : OwnRow R e size W base v ps) (HB : Below base w0 W) (hbase : base ≤ W.heap.size) (hl : (ps.length + 1) * bytes ≤ 140737488355328)
    (h : ∀ v1 w1, OwnRow R e size w1 base v1 (ps ++ [p]) → Below base w0 w1 → W.grownBy w1 v.ownBlock → (v1.ownBlock = v.ownBlock ∨ ∃ b, v1.ownBlock = some b ∧ W.heap.size ≤ b) → wpList P ops Q rest (a.put o.dst v1) w1) :
    wpList P ops Q (o :: rest) a (W.alloc (.cells cs.toArray e)) := by
  obtain ⟨inner, hown, hr⟩ := HO
  refine print_append_cells base hgd s x t e z size bytes ho ht hinfo hz hs0 hb0 v ps.length inner cs hs hx hcs h1 hown HB hbase hl ?_
  intro v1 w1 hown1 hb1 hg1 hat1
  exact h v1 w1 ⟨inner ++ cs, by rw [List.length_append, List.length_singleton]; exact hown1, hr.snoc hp hcs⟩ hb1 hg1 hat1
end
section
variable {P : Program} {ops : Array Oper} {o : Oper} {a : Act} {Q : Exit → Act → World → Prop} {K : Act → World → Prop} {α : Type} {R : α → List Value → Prop}
end
/-! ### 21. Cuts of a slice that came in, lengths spelled as_ the lists' -/
section
variable {α : Type} {P : Program}
theorem ReadsOf.len_ {enc : α → Value} {d : α} {w : World} {A : Option Addr} {n : Nat} {xs : List α} (h : ReadsOf enc d w A n xs) : ReadsOf enc d w A xs.length xs := by rw [h.1]; exact h
end

/-! ### 22. append([]byte, s...), s a string; behind 'at_builtin'. (No word on where the new row lies: two rows of bytes at once don't go by it.) -/
section
variable {P : Program} {ops : Array Oper} {rest : List Oper} {o : Oper} {a : Act} {Q : Exit → Act → World → Prop}
end
/-! ### 23. KINDS: what a value's cells say, read (K) and made (M), kind by kind; every mover proved once -/
/-- ok: which blocks the rows inside may be ('not the row that is being written'). -/
structure Kd (α : Type) where
  sz : Nat
  E : List Nat
  K : World → α → List Value → Prop
  M : World → Nat → (Nat → Prop) → α → List Value → Prop
  K_len : ∀ {w x cs}, K w x cs → cs.length = sz
  K_one : ∀ {w x cs}, K w x cs → ∀ u ∈ cs, u.oneCell' = true
  K_below : ∀ {w w1 : World} {x cs}, Below w.heap.size w w1 → K w x cs → K w1 x cs
  K_of_M : ∀ {w base ok x cs}, M w base ok x cs → K w x cs
  M_mono : ∀ {w base ok ok' x cs}, (∀ k, ok k → ok' k) → M w base ok x cs → M w base ok' x cs
  M_bound : ∀ {w : World} {base ok x cs}, M w base ok x cs → M w base (fun k => ok k ∧ base ≤ k ∧ k < w.heap.size ∧ ∃ q, q ∈ E ∧ ∃ cells, w.heap[k]? = some (.cells cells q (0, 0))) x cs
  M_move : ∀ {w w1 : World} {base ok x cs}, (∀ k, ok k → w1.heap[k]? = w.heap[k]?) → M w base ok x cs → M w1 base ok x cs
  M_lower : ∀ {w base base' ok x cs}, base' ≤ base → M w base ok x cs → M w base' ok x cs

theorem own_move {w w1 : World} {base : Nat} {e : TypeId} {size n : Nat} {v : Value} {xs : List Value} (h : w.ownsRow base e size v n xs) (hm : ∀ k, v.ownBlock = some k → w1.heap[k]? = w.heap[k]?) : w1.ownsRow base e size v n xs := by
  obtain ⟨h1, h2⟩ := h
  refine ⟨h1, ?_⟩
  rcases h2 with h2 | ⟨g, cap, cur, rfl, hg, hh, r⟩
  · exact .inl h2
  · exact .inr ⟨g, cap, cur, rfl, hg, (hm g (by simp [Value.ownBlock])).trans hh, r⟩
theorem own_typed {w : World} {base : Nat} {e : TypeId} {size n : Nat} {v : Value} {xs : List Value} (h : w.ownsRow base e size v n xs) (k : Nat) (hk : v.ownBlock = some k) : ∃ cells, w.heap[k]? = some (.cells cells e (0, 0)) := by
  rcases h.2 with ⟨rfl, _⟩ | ⟨g, cap, cur, rfl, hg, hh, r⟩
  · simp [Value.ownBlock] at hk
  · have : g = k := by simpa [Value.ownBlock] using hk
    subst this
    exact ⟨cur, hh⟩

namespace Kd
/-- A row of elements that is read. -/
def C {α : Type} (d : Kd α) (w : World) (A : Option Addr) (n : Nat) (xs : List α) : Prop := ReadsRow (d.K w) d.sz w A n xs
/-- A row of elements (type e) of the call's own; the elements' rows are not this one. -/
def R {α : Type} (d : Kd α) (e : Nat) (w : World) (base : Nat) (ok : Nat → Prop) (v : Value) (xs : List α) : Prop :=
  (∀ k, v.ownBlock = some k → ok k) ∧ OwnRow (d.M w base (fun k => ok k ∧ some k ≠ v.ownBlock)) e d.sz w base v xs
section
variable {α : Type} {d : Kd α} {e : Nat} {w w1 : World} {base : Nat} {ok ok' : Nat → Prop} {v : Value} {xs : List α}
theorem C_below {A : Option Addr} {n : Nat} (h : d.C w A n xs) (hb : Below w.heap.size w w1) : d.C w1 A n xs := ReadsRow.imp_ h hb (fun _ _ hp => d.K_below hb hp)
theorem R_mono (h : d.R e w base ok v xs) (hok : ∀ k, ok k → ok' k) : d.R e w base ok' v xs := ⟨fun k hk => hok k (h.1 k hk), h.2.imp_ (fun _ _ hp => d.M_mono (fun k hk => ⟨hok k hk.1, hk.2⟩) hp)⟩
theorem R_bound (h : d.R e w base ok v xs) : d.R e w base (fun k => ok k ∧ base ≤ k ∧ k < w.heap.size ∧ ∃ q, q ∈ e :: d.E ∧ ∃ cells, w.heap[k]? = some (.cells cells q (0, 0))) v xs := by
  obtain ⟨h0, inner, ho, hr⟩ := h
  refine ⟨fun k hk => ?_, inner, ho, hr.imp_ (fun _ _ hp => d.M_mono (fun k hk => ?_) (d.M_bound hp))⟩
  · obtain ⟨cells, hc⟩ := own_typed ho k hk
    exact ⟨h0 k hk, own_base ho k hk, own_lt ho k hk, e, List.mem_cons_self, cells, hc⟩
  · obtain ⟨⟨h1, h2⟩, h3, h4, q, hq, hc⟩ := hk
    exact ⟨⟨h1, h3, h4, q, List.mem_cons_of_mem _ hq, hc⟩, h2⟩
theorem R_move (h : d.R e w base ok v xs) (hm : ∀ k, ok k → w1.heap[k]? = w.heap[k]?) : d.R e w1 base ok v xs := by
  obtain ⟨h0, inner, ho, hr⟩ := h
  exact ⟨h0, inner, own_move ho (fun k hk => hm k (h0 k hk)), hr.imp_ (fun _ _ hp => d.M_move (fun k hk => hm k hk.1) hp)⟩
theorem R_lower {base' : Nat} (h : d.R e w base ok v xs) (hb : base' ≤ base) : d.R e w base' ok v xs := by
  obtain ⟨h0, inner, ho, hr⟩ := h
  exact ⟨h0, inner, own_weaken ho hb, hr.imp_ (fun _ _ hp => d.M_lower hb hp)⟩
theorem R_reads (h : d.R e w base ok v xs) : ∃ A c, v = .slice A xs.length c ∧ xs.length ≤ c ∧ d.C w A xs.length xs := by
  obtain ⟨A, c, he, hl, hr⟩ := OwnRow.reads h.2
  exact ⟨A, c, he, hl, hr.imp_ (Below.refl _ _) (fun _ _ hp => d.K_of_M hp)⟩
end

/-! #### the kinds -/
def scalar {α : Type} (enc : α → Value) (h1 : ∀ x, (enc x).oneCell' = true) : Kd α where
  sz := 1
  E := []
  K := fun _ x cs => cs = [enc x]
  M := fun _ _ _ x cs => cs = [enc x]
  K_len := fun h => by rw [h]; rfl
  K_one := fun h u hu => by
    rw [h] at hu
    rw [List.mem_singleton.1 hu]
    exact h1 _
  K_below := fun _ h => h
  K_of_M := fun h => h
  M_mono := fun _ h => h
  M_bound := fun h => h
  M_move := fun _ h => h
  M_lower := fun _ h => h
def int (k : IntKind) : Kd Int := scalar (Value.int k) (fun _ => rfl)
def bool : Kd Bool := scalar Value.bool (fun _ => rfl)
def string : Kd ByteArray := scalar Value.string (fun _ => rfl)
def slice {α : Type} (e : Nat) (d : Kd α) : Kd (List α) where
  sz := 1
  E := e :: d.E
  K := fun w xs cs => ∃ A c, cs = [.slice A xs.length c] ∧ xs.length ≤ c ∧ d.C w A xs.length xs
  M := fun w base ok xs cs => ∃ v, cs = [v] ∧ d.R e w base ok v xs
  K_len := by
    rintro w x cs ⟨A, c, rfl, _⟩
    rfl
  K_one := by
    rintro w x cs ⟨A, c, rfl, _⟩ u hu
    rw [List.mem_singleton.1 hu]
    rfl
  K_below := by
    rintro w w1 x cs hb ⟨A, c, rfl, hl, hr⟩
    exact ⟨A, c, rfl, hl, C_below hr hb⟩
  K_of_M := by
    rintro w base ok x cs ⟨v, rfl, h⟩
    obtain ⟨A, c, rfl, hl, hr⟩ := R_reads h
    exact ⟨A, c, rfl, hl, hr⟩
  M_mono := by
    rintro w base ok ok' x cs hok ⟨v, rfl, h⟩
    exact ⟨v, rfl, R_mono h hok⟩
  M_bound := by
    rintro w base ok x cs ⟨v, rfl, h⟩
    exact ⟨v, rfl, R_bound h⟩
  M_move := by
    rintro w w1 base ok x cs hm ⟨v, rfl, h⟩
    exact ⟨v, rfl, R_move h hm⟩
  M_lower := by
    rintro w base base' ok x cs hb ⟨v, rfl, h⟩
    exact ⟨v, rfl, R_lower h hb⟩
/-- Two in line. -/
def pair {α β : Type} (a : Kd α) (b : Kd β) : Kd (α × β) where
  sz := a.sz + b.sz
  E := a.E ++ b.E
  K := fun w x cs => ∃ c0 c1, cs = c0 ++ c1 ∧ a.K w x.1 c0 ∧ b.K w x.2 c1
  M := fun w base ok x cs => ∃ c0 c1, cs = c0 ++ c1 ∧ a.M w base ok x.1 c0 ∧ b.M w base ok x.2 c1
  K_len := by
    rintro w x cs ⟨c0, c1, rfl, h0, h1⟩
    rw [List.length_append, a.K_len h0, b.K_len h1]
  K_one := by
    rintro w x cs ⟨c0, c1, rfl, h0, h1⟩ u hu
    rcases List.mem_append.1 hu with hu | hu
    · exact a.K_one h0 u hu
    · exact b.K_one h1 u hu
  K_below := by
    rintro w w1 x cs hb ⟨c0, c1, rfl, h0, h1⟩
    exact ⟨c0, c1, rfl, a.K_below hb h0, b.K_below hb h1⟩
  K_of_M := by
    rintro w base ok x cs ⟨c0, c1, rfl, h0, h1⟩
    exact ⟨c0, c1, rfl, a.K_of_M h0, b.K_of_M h1⟩
  M_mono := by
    rintro w base ok ok' x cs hok ⟨c0, c1, rfl, h0, h1⟩
    exact ⟨c0, c1, rfl, a.M_mono hok h0, b.M_mono hok h1⟩
  M_bound := by
    rintro w base ok x cs ⟨c0, c1, rfl, h0, h1⟩
    refine ⟨c0, c1, rfl, a.M_mono ?_ (a.M_bound h0), b.M_mono ?_ (b.M_bound h1)⟩
    · rintro k ⟨h2, h3, h4, q, hq, hc⟩
      exact ⟨h2, h3, h4, q, List.mem_append_left _ hq, hc⟩
    · rintro k ⟨h2, h3, h4, q, hq, hc⟩
      exact ⟨h2, h3, h4, q, List.mem_append_right _ hq, hc⟩
  M_move := by
    rintro w w1 base ok x cs hm ⟨c0, c1, rfl, h0, h1⟩
    exact ⟨c0, c1, rfl, a.M_move hm h0, b.M_move hm h1⟩
  M_lower := by
    rintro w base base' ok x cs hb ⟨c0, c1, rfl, h0, h1⟩
    exact ⟨c0, c1, rfl, a.M_lower hb h0, b.M_lower hb h1⟩
/-- Nothing is of this kind: where the nesting's depth is used up. -/
def bot {α : Type} (sz : Nat) (E : List Nat) : Kd α where
  sz := sz
  E := E
  K := fun _ _ _ => False
  M := fun _ _ _ _ _ => False
  K_len := fun h => h.elim
  K_one := fun h => h.elim
  K_below := fun _ h => h
  K_of_M := fun h => h
  M_mono := fun _ h => h
  M_bound := fun h => h
  M_move := fun _ h => h
  M_lower := fun _ h => h
/-- A type nested in itself: nested at most n deep .. -/
def upto {α : Type} (F : Kd α → Kd α) (sz : Nat) (E : List Nat) : Nat → Kd α
  | 0 => bot sz E
  | n + 1 => F (upto F sz E n)
/-! #### an element of a row that is read; an element appended -/
section
variable {P : Program} {ops : Array Oper} {rest : List Oper} {o : Oper} {a : Act} {Q : Exit → Act → World → Prop} {α : Type}
end
section
variable {P : Program} {ops : Array Oper} {o : Oper} {a : Act} {Q : Exit → Act → World → Prop} {Kc : Act → World → Prop} {α : Type}
end
end Kd
/-! ### 24. Kinds nested in themselves -/
namespace Kd
/-- F says the more, the more its argument says. -/
structure Mono {α β : Type} (F : Kd α → Kd β) : Prop where
  sz : ∀ d d' : Kd α, d.sz = d'.sz → (F d).sz = (F d').sz
  K : ∀ d d' : Kd α, d.sz = d'.sz → (∀ w x cs, d.K w x cs → d'.K w x cs) → ∀ w x cs, (F d).K w x cs → (F d').K w x cs
  M : ∀ d d' : Kd α, d.sz = d'.sz → (∀ w base ok x cs, d.M w base ok x cs → d'.M w base ok x cs) → ∀ w base ok x cs, (F d).M w base ok x cs → (F d').M w base ok x cs
section
variable {α : Type} {F : Kd α → Kd α} {sz : Nat} {E : List Nat} {hs : ∀ n, (upto F sz E n).sz = sz} {hE : ∀ n q, q ∈ (upto F sz E n).E → q ∈ E}
end
end Kd
/-! ### 25. What is held while another row is written: 'ok' says that its rows are none of that row's block -/
namespace Kd
end Kd
/-! ### 26. Words for a printer that takes every slice by its kind -/
namespace Kd
section
variable {α β : Type} {d : Kd α} {d' : Kd β} {e e' : Nat} {w w1 W : World} {base b b' : Nat} {ok ok' okv oku : Nat → Prop} {v u : Value} {xs : List α} {ys : List β}
end
/-! #### scalars -/
section
variable {w W : World} {A : Option Addr} {n : Nat}
variable {α : Type} {enc : α → Value} {h1 : ∀ x, (enc x).oneCell' = true} {e base g cap : Nat} {ok : Nat → Prop} {xs : List α}
end

/-! #### events: a letter for what make and a literal leave -/
section
variable {P : Program} {ops : Array Oper} {rest : List Oper} {o : Oper} {a : Act} {Q : Exit → Act → World → Prop}
variable {α : Type}
end
end Kd
/-! ### 27. Cuts of a row of one's own: 'xs = xs[:n]' stays a row (R_take); 'xs = xs[k:]' is a row that begins inside its block (Kd.Q), append goes on it too -/
section
variable {P : Program}
end
/-- A row of one's own that may begin inside its block. -/
def QRow (w : World) (base : Nat) (e : TypeId) (size : Nat) (v : Value) (n : Nat) (xs : List Value) : Prop :=
  xs.length = n * size ∧
  ((n = 0 ∧ ∃ A, v = .slice A 0 0 ∧ ∀ a, A = some a → base ≤ a.block ∧ ∃ cur, w.heap[a.block]? = some (.cells cur e (0, 0))) ∨
   ∃ g off cap cur, v = .slice (some ⟨g, off * size, none⟩) n cap ∧ base ≤ g ∧ w.heap[g]? = some (.cells cur e (0, 0)) ∧ n ≤ cap ∧ off + cap ≤ maxLen ∧ cur.size = (off + cap) * size ∧ (cur.toList.drop (off * size)).take (n * size) = xs)
section
variable {w w1 : World} {base n size : Nat} {e : TypeId} {v : Value} {xs : List Value}
end
section
variable {P : Program}
end
/-! ### 28. The kinds' words for cuts: R_take; Q (a row that may begin inside its block) with all of R's movers -/
namespace Kd
def Q {α : Type} (d : Kd α) (e : Nat) (w : World) (base : Nat) (ok : Nat → Prop) (v : Value) (xs : List α) : Prop :=
  (∀ k, v.ownBlock = some k → ok k) ∧ ∃ inner, QRow w base e d.sz v xs.length inner ∧ Reps (d.M w base (fun k => ok k ∧ some k ≠ v.ownBlock)) d.sz xs inner
section
variable {α : Type} {d : Kd α} {e : Nat} {w w1 W : World} {base : Nat} {ok ok' : Nat → Prop} {v : Value} {xs : List α}
end
section
variable {P : Program} {ops : Array Oper} {rest : List Oper} {o : Oper} {a : Act} {Q' : Exit → Act → World → Prop} {Kc : Act → World → Prop} {α : Type}
end
end Kd
/-! ### 29. Movers that ask of another row no more than they need: for R and for Q -/
namespace Kd
section
variable {α : Type} {d : Kd α} {e e' : Nat} {w w1 W : World} {base : Nat} {ok : Nat → Prop} {u v : Value} {xs : List α}
end
end Kd
/-! ### 30. Elements written: x[i] = T{..}, x[i].f = v, swaps, in a row of elements of any kind -/
namespace Kd
section
variable {α : Type} {d : Kd α} {e base g n cap : Nat} {ok okp : Nat → Prop} {W : World} {xs : List α}
end
end Kd
/-! ### 31. What came in, put into what is made: 'fixed d w0' (read in w0, whatever happens since), 'or_ a b', 'mix' (a slice that came in, or one that is made) -/
namespace Kd
section
variable {α : Type} {F : Kd α → Kd α} {sz : Nat} {E : List Nat} {hs : ∀ n, (upto F sz E n).sz = sz} {hE : ∀ n q, q ∈ (upto F sz E n).E → q ∈ E}
end
end Kd
/-! ### 32. A whole row appended, of elements of any kind; copy onto a row of scalars of one's own -/
namespace Kd
section
variable {P : Program} {ops : Array Oper} {rest : List Oper} {o : Oper} {a : Act} {Q : Exit → Act → World → Prop} {α : Type}
end
end Kd
/-! ### 33. A store into a row of one's own, as_ an event: no go_simp -/
namespace Kd
section
variable {P : Program} {ops : Array Oper} {rest : List Oper} {o : Oper} {a : Act} {Q : Exit → Act → World → Prop} {α : Type}
end
end Kd
/-! ### 34. Cuts that are only read, of any row -/
theorem add_add (a : Addr) (i j : Nat) : (a.add i).add j = a.add (i + j) := by
  unfold Addr.add
  by_cases h1 : i = 0 <;> by_cases h2 : j = 0 <;> simp [h1, h2, Nat.add_assoc]
namespace Kd
section
variable {α : Type} {k : Kd α} {w : World} {A : Option Addr} {xs : List α} {m c : Nat}
end
end Kd
section
variable {P : Program}
end
/-! ### 35. string(b), b read (a cut too) -/
/-! ### 6. What the printer adds -/
theorem ReadsInt.nil (W : World) (k : IntKind) : ReadsInt W k none ([] : List Int).length [] := ⟨rfl, by simp, fun h => absurd h (Nat.lt_irrefl 0)⟩
theorem ReadsInt.drewN {W : World} {k : IntKind} {A : Option Addr} {n : Nat} {xs : List Int} (h : ReadsInt W k A n xs) (m : Nat) : ReadsInt (W.drewN m) k A n xs := h
theorem keep_cell {w W : World} {g : Nat} (h : KeepBut w W g none) {a : Addr} {v : Value} (hc : w.cell? a = some v) (hne : a.block ≠ g) : W.cell? a = some v := by
  have := h.2 a.block (World.block_lt_of_cell? w a hc) hne (by simp)
  simpa [World.cell?, this] using hc
theorem add_block (a : Addr) (i : Nat) : (a.add i).block = a.block := by unfold Addr.add; split <;> rfl
theorem ReadsOf.nil {α : Type} (enc : α → Value) (d : α) (W : World) : ReadsOf enc d W none ([] : List α).length [] := ⟨rfl, by simp, fun h => absurd h (Nat.lt_irrefl 0)⟩
theorem ReadsOf.drewN {α : Type} {enc : α → Value} {d : α} {W : World} {A : Option Addr} {n : Nat} {xs : List α} (h : ReadsOf enc d W A n xs) (m : Nat) : ReadsOf enc d (W.drewN m) A n xs := h
theorem ReadsInt.keep {w W : World} {k : IntKind} {A : Option Addr} {n g : Nat} {xs : List Int} (h : ReadsInt w k A n xs) (hk : KeepBut w W g none) (hf : ∀ ad, A = some ad → 0 < n → ad.block ≠ g) : ReadsInt W k A n xs :=
  ⟨h.1, h.2.1, fun hn => by
    obtain ⟨ad, e, hc⟩ := h.2.2 hn
    exact ⟨ad, e, fun j hj => keep_cell hk (hc j hj) (by rw [add_block]; exact hf ad e hn)⟩⟩
theorem ReadsOf.keep {α : Type} {enc : α → Value} {d : α} {w W : World} {A : Option Addr} {n g : Nat} {xs : List α} (h : ReadsOf enc d w A n xs) (hk : KeepBut w W g none) (hf : ∀ ad, A = some ad → 0 < n → ad.block ≠ g) : ReadsOf enc d W A n xs :=
  ⟨h.1, h.2.1, fun hn => by
    obtain ⟨ad, e, hc⟩ := h.2.2 hn
    exact ⟨ad, e, fun j hj => keep_cell hk (hc j hj) (by rw [add_block]; exact hf ad e hn)⟩⟩
namespace Kd
section
variable {α β : Type} {d : Kd α} {d' : Kd β} {e e' base base' n : Nat} {ok ok' : Nat → Prop} {w W w1 W1 : World} {v u : Value} {xs : List α} {ys : List β} {A : Option Addr} {c : Nat}
end
section
variable {α : Type} {enc : α → Value} {h1 : ∀ x, (enc x).oneCell' = true} {w W : World} {A : Option Addr} {n g : Nat} {xs : List α}
end
end Kd
namespace Kd
section
variable {α : Type} {d : Kd α} {e base g : Nat} {ok : Nat → Prop} {w w1 : World} {v : Value} {xs : List α} {o : Obj}
end
end Kd
section
variable {P : Program} {ops : Array Oper} {rest : List Oper} {o : Oper} {a : Act} {Q : Exit → Act → World → Prop}
end
namespace Kd
section
variable {α : Type} {enc : α → Value} {h1 : ∀ x, (enc x).oneCell' = true} {e base g n cap : Nat} {ok : Nat → Prop} {W : World} {xs : List α}
end
end Kd
section
variable {P : Program} {ops : Array Oper} {rest : List Oper} {o : Oper} {a : Act} {Q : Exit → Act → World → Prop}
end
namespace Kd
section
variable {α : Type} {enc : α → Value} {h1 : ∀ x, (enc x).oneCell' = true} {e base g n cap : Nat} {ok : Nat → Prop} {W : World} {xs : List α}
end
end Kd
section
variable {P : Program} {ops : Array Oper} {rest : List Oper} {o : Oper} {a : Act} {Q : Exit → Act → World → Prop} {W : World}
end
/-! ### 36. Events as_ one step of a region that draws (for one_, two_, three_) -/
section
variable {P : Program} {ops : Array Oper} {o : Oper} {a : Act} {Q : Exit → Act → World → Prop} {Kc : Act → World → Prop}
namespace Kd
variable {α : Type}
end Kd
end
/-! ### 37. Results of any shape -/
inductive Vals (P : Program) (tmps : Array Value) (w : World) : List ResultVar → List Value → Prop where
  | nil : Vals P tmps w [] []
  | tmp {u : Tmp} {rs : List ResultVar} {vs : List Value} (h : Vals P tmps w rs vs) : Vals P tmps w (.tmp u :: rs) (tmps.getD u undef :: vs)
  | cell {p : Tmp} {ty : TypeId} {rs : List ResultVar} {vs : List Value} (g : Nat) (t : TypeId) (cs : Array Value) (fr : Nat × Nat) (d : TypeDesc)
      (hp : tmps.getD p undef = .pointer (some ⟨g, 0, none⟩)) (hg : w.heap[g]? = some (.cells cs t fr))
      (hu : P.underlying ty = some d) (hd : (match d with | .struct _ | .array _ _ => true | _ => false) = true) (hi : (P.info? ty).map (·.size) = some cs.size)
      (h : Vals P tmps w rs vs) : Vals P tmps w (.cell p ty :: rs) (.agg cs :: vs)
section
variable {P : Program} {tmps : Array Value} {w : World}
end
/-! ### 38. 'out = append(out[:k], out[k+1:]...)': an element taken out of a row of one's own, in place -/
namespace Kd
section
variable {P : Program} {α : Type}
end
section
variable {P : Program} {ops : Array Oper} {rest : List Oper} {o : Oper} {a : Act} {Q : Exit → Act → World → Prop} {Kc : Act → World → Prop} {α : Type}
end
end Kd

end Go.Proofs.YtllfmafebhifdaaW.PrintWords
end
