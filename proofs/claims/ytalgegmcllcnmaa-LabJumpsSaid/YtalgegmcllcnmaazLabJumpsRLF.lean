/- Parts of the proof, one behind the other. -/
import Derived.Test.YtalgegmcllcnmaazLabJumpsRLD
section
/- RL: regions that draw their order, new blocks among what is done: what a run in the text's order tells. -/
namespace Go.Proofs.YtalgegmcllcnmaaRL
open Go
set_option linter.unusedVariables false
set_option linter.unusedSimpArgs false
variable {Δ : List Deferred}
mutual
theorem V.ok_mono {f g : Nat → Bool} (h : ∀ i, f i = true → g i = true) : ∀ (v : V), v.ok f = true → v.ok g = true
  | .raw v, _ => rfl
  | .md k m l, _ => rfl
  | .ptr i o, hb => h i hb
  | .sl i o n c, hb => h i hb
  | .mp i, hb => h i hb
  | .yld i, hb => h i hb
  | .lst i k o e m, hb => by simp only [V.ok, Bool.and_eq_true] at hb ⊢; exact ⟨h i hb.1, h k hb.2⟩
  | .el i z k f, hb => by simp only [V.ok] at hb ⊢; exact h i hb
  | .sle i z k n c, hb => by simp only [V.ok] at hb ⊢; exact h i hb
  | .lse i k z e m, hb => by simp only [V.ok, Bool.and_eq_true] at hb ⊢; exact ⟨h i hb.1, h k hb.2⟩
  | .lend i k o e l z, hb => by simp only [V.ok, Bool.and_eq_true] at hb ⊢; exact ⟨h i hb.1, h k hb.2⟩
  | .fn _ a b, hb => by simp only [V.ok, Bool.and_eq_true] at hb ⊢; exact ⟨okL_mono h a hb.1, okL_mono h b hb.2⟩
  | .ifc t v, hb => by simp only [V.ok] at hb ⊢; exact V.ok_mono h v hb
  | .agg cs, hb => by simp only [V.ok] at hb ⊢; exact okL_mono h cs hb
  | .tup vs, hb => by simp only [V.ok] at hb ⊢; exact okL_mono h vs hb
theorem okL_mono {f g : Nat → Bool} (h : ∀ i, f i = true → g i = true) : ∀ (l : List V), okL f l = true → okL g l = true
  | [], _ => rfl
  | v :: l, hb => by simp only [okL, Bool.and_eq_true] at hb ⊢; exact ⟨V.ok_mono h v hb.1, okL_mono h l hb.2⟩
end
theorem Ent.ok_mono {f g : Nat → Bool} (h : ∀ i, f i = true → g i = true) {e : Ent} (he : e.ok f = true) : e.ok g = true := by
  cases e with
  | own cs t => exact okL_mono h cs he
  | ro cs => exact okL_mono h cs he
  | map es c =>
    refine List.all_eq_true.2 fun x hx => ?_
    have := List.all_eq_true.1 he x hx
    simp only [Bool.and_eq_true] at this ⊢
    exact ⟨V.ok_mono h _ this.1, V.ok_mono h _ this.2⟩
  | lst cs t k z => simp only [Ent.ok, Bool.and_eq_true] at he ⊢; exact ⟨okL_mono h cs he.1, h k he.2⟩
  | arr m cols q t =>
    cases m with
    | grow k => exact h k he
    | _ => rfl
  | lp => cases he
  | no => rfl
theorem Ent.bd_mono {n m : Nat} (hle : n ≤ m) {f : Ent} (hf : f.bd n) : f.bd m := Ent.bd_mono' hle f hf
theorem Ent.okd_bd {f : Nat → Bool} {b n : Nat} {e : Ent} (h : e.okd f b) (hn : b ≤ n) (hf : ∀ i, f i = true → i < n) : e.bd n := by
  rcases h with h | ⟨h, _⟩
  · exact Ent.bd_ok hf h
  · exact Ent.bd_mono hn h
theorem maskN_length (f : Nat → Bool) (N : List (Nat × Ent)) : (maskN f N).length = N.length := by simp [maskN]
theorem maskN_all {f : Nat → Bool} {N : List (Nat × Ent)} (h : ∀ p ∈ N, f p.1 = true) : maskN f N = N.map (·.2) := by
  refine List.map_congr_left fun p hp => ?_
  simp only [h p hp]
theorem maskN_get {f : Nat → Bool} {N : List (Nat × Ent)} {k : Nat} {e : Ent} (h : (maskN f N)[k]? = some e) : ∃ p, N[k]? = some p ∧ ((f p.1 = true ∧ e = p.2) ∨ (f p.1 = false ∧ e = .no)) := by
  simp only [maskN, List.getElem?_map] at h
  obtain ⟨p, hp, rfl⟩ := Option.map_eq_some_iff.1 h
  refine ⟨p, hp, ?_⟩
  cases hf : f p.1
  · exact .inr ⟨rfl, rfl⟩
  · exact .inl ⟨rfl, rfl⟩
theorem maskN_at {f : Nat → Bool} {N : List (Nat × Ent)} {k : Nat} {p : Nat × Ent} (h : N[k]? = some p) (hf : f p.1 = true) : (maskN f N)[k]? = some p.2 := by
  simp [maskN, h, hf]
/-- A store of which less is known. -/
theorem Rep.less {ρ : Rho} {s s' : Sto} {w : World} (h : Rep ρ s w) (hs : ∀ (i : Nat) (e : Ent), s'[i]? = some e → e = .no ∨ s[i]? = some e) : Rep ρ s' w := by
  refine ⟨fun i e he => ?_, fun i j e f he hf ho hl hij => ?_⟩
  · rcases hs i e he with rfl | h1
    · trivial
    · exact h.ent i e h1
  · rcases hs i e he with rfl | h1
    · cases ho
    · rcases hs j f hf with rfl | h2
      · cases hl
      · exact h.sep i j e f h1 h2 ho hl hij
theorem mask_less {s : Sto} {N M : List (Nat × Ent)} {f g : Nat → Bool} (hfg : ∀ q, f q = true → g q = true) (i : Nat) (e : Ent) (h : (s ++ maskN f N)[i]? = some e) : e = .no ∨ (s ++ maskN g (N ++ M))[i]? = some e := by
  by_cases hi : i < s.length
  · rw [List.getElem?_append_left hi] at h ⊢
    exact .inr h
  · rw [List.getElem?_append_right (by omega)] at h ⊢
    obtain ⟨p, hp, ⟨h1, rfl⟩ | ⟨h1, rfl⟩⟩ := maskN_get h
    · refine .inr (maskN_at ?_ (hfg _ h1))
      rw [List.getElem?_append_left (List.getElem?_eq_some_iff.1 hp).1]
      exact hp
    · exact .inl rfl
theorem okAt_cases {b : Nat} {N : List (Nat × Ent)} {f : Nat → Bool} {i : Nat} (h : okAt b N f i = true) : i < b ∨ ∃ p, b ≤ i ∧ N[i - b]? = some p ∧ f p.1 = true := by
  unfold okAt at h
  split at h
  · rename_i hb; exact .inl (by simpa using hb)
  · rename_i hb
    have hle : b ≤ i := by
      rcases Nat.lt_or_ge i b with hh | hh
      · rw [← Nat.blt_eq, hb] at hh; cases hh
      · exact hh
    split at h
    · rename_i p hp; exact .inr ⟨p, hle, hp, h⟩
    · cases h
theorem okAt_lt {b : Nat} {N : List (Nat × Ent)} {f : Nat → Bool} {i : Nat} (h : okAt b N f i = true) : i < b + N.length := by
  rcases okAt_cases h with h | ⟨p, h1, h2, _⟩
  · omega
  · have := (List.getElem?_eq_some_iff.1 h2).1
    omega
theorem okAt_of_lt {b : Nat} {N : List (Nat × Ent)} {f : Nat → Bool} {i : Nat} (h : i < b) : okAt b N f i = true := by
  have hb : Nat.blt i b = true := by rw [Nat.blt_eq]; exact h
  unfold okAt
  rw [hb]
theorem okAt_of {b : Nat} {N : List (Nat × Ent)} {f : Nat → Bool} {i : Nat} {p : Nat × Ent} (h : b ≤ i) (hp : N[i - b]? = some p) (hf : f p.1 = true) : okAt b N f i = true := by
  unfold okAt
  split
  · rfl
  · rw [hp]; exact hf
theorem okAt_mono {b : Nat} {N M : List (Nat × Ent)} {f g : Nat → Bool} (hfg : ∀ q, f q = true → g q = true) (i : Nat) (h : okAt b N f i = true) : okAt b (N ++ M) g i = true := by
  rcases okAt_cases h with h | ⟨p, h1, h2, h3⟩
  · exact okAt_of_lt h
  · exact okAt_of h1 (by rw [List.getElem?_append_left (List.getElem?_eq_some_iff.1 h2).1]; exact h2) (hfg _ h3)
def Closed (ops : Array Oper) (L : Nat → Bool) : Prop := ∀ (j : Nat) o, ops[j]? = some o → L j = true → ∀ i ∈ preds o, L i = true
def Waits (ops : Array Oper) (o : Oper) (f : Nat → Bool) : Prop := ∀ L, Closed ops L → (∀ p ∈ preds o, L p = true) → ∀ q, f q = true → L q = true
theorem bitN_eq (m q : Nat) : bitN m q = m.testBit q := by
  unfold bitN Nat.testBit
  have h1 : Nat.land (Nat.shiftRight m q) 1 = 1 &&& m >>> q := by rw [Nat.and_comm]; rfl
  rw [h1]
  have h2 : 1 &&& m >>> q = 0 ∨ 1 &&& m >>> q = 1 := by
    rw [Nat.and_comm, Nat.and_one_is_mod]
    omega
  rcases h2 with h | h <;> rw [h] <;> rfl
def uni : List Nat → Nat
  | [] => 0
  | x :: l => Nat.lor x (uni l)
theorem uni_bit {l : List Nat} {q : Nat} (h : bitN (uni l) q = true) : ∃ x ∈ l, bitN x q = true := by
  induction l with
  | nil => rw [bitN_eq, uni] at h; simp at h
  | cons x l ih =>
    rw [bitN_eq] at h
    have h : (x ||| uni l).testBit q = true := h
    rw [Nat.testBit_or, Bool.or_eq_true] at h
    rcases h with h | h
    · exact ⟨x, by simp, by rw [bitN_eq]; exact h⟩
    · obtain ⟨y, hy, h2⟩ := ih (by rw [bitN_eq]; exact h)
      exact ⟨y, by simp [hy], h2⟩
def subN (a b : Nat) : Bool := Nat.beq (Nat.lor a b) b
theorem subN_bit {a b q : Nat} (h : subN a b = true) (hq : bitN a q = true) : bitN b q = true := by
  have h1 : (a ||| b) = b := Nat.eq_of_beq_eq_true h
  rw [bitN_eq] at hq ⊢
  rw [← h1, Nat.testBit_or, hq]
  rfl
def oneN (i : Nat) : Nat := Nat.shiftLeft 1 i
theorem oneN_bit {i q : Nat} : bitN (oneN i) q = true ↔ q = i := by
  rw [bitN_eq]
  have : oneN i = 2 ^ i := Nat.one_shiftLeft i
  rw [this, Nat.testBit_two_pow]
  simp [eq_comm]
def pmask (ps : List Nat) : Nat := uni (ps.map oneN)
theorem pmask_bit {ps : List Nat} {q : Nat} (h : bitN (pmask ps) q = true) : q ∈ ps := by
  obtain ⟨x, hx, h⟩ := uni_bit h
  obtain ⟨i, hi, rfl⟩ := List.mem_map.1 hx
  rw [oneN_bit.1 h]; exact hi
/-- Who waits for whom, through others: a number whose bits are those waited for. -/
def tcGo : List Oper → List Nat → List Nat
  | [], acc => acc
  | o :: os, acc => tcGo os (acc ++ [uni ((preds o).map fun i => Nat.lor (oneN i) (acc.getD i 0))])
def tcCk (ops : List Oper) (TC : List Nat) : Bool := ops.zipIdx.all fun p => Nat.blt (TC.getD p.2 0) (oneN p.2) && (preds p.1).all (fun i => Nat.blt i p.2) && subN (TC.getD p.2 0) (uni ((preds p.1).map fun i => Nat.lor (oneN i) (TC.getD i 0)))
theorem tcCk_lt {ops : Array Oper} {TC : List Nat} (h : tcCk ops.toList TC = true) {j : Nat} {o : Oper} (hj : ops[j]? = some o) {q : Nat} (hq : tcAt TC j q = true) : q < j := by
  have h1 := List.all_eq_true.1 h (o, j) (List.mem_zipIdx_iff_getElem?.2 (by rw [Array.getElem?_toList]; exact hj))
  simp only [Bool.and_eq_true, Nat.blt_eq] at h1
  have h2 : TC.getD j 0 < 2 ^ j := by rw [← Nat.one_shiftLeft]; exact h1.1.1
  unfold tcAt at hq
  rw [bitN_eq] at hq
  rcases Nat.lt_or_ge q j with hlt | hge
  · exact hlt
  · rw [Nat.testBit_lt_two_pow (Nat.lt_of_lt_of_le h2 (Nat.pow_le_pow_right (by omega) hge))] at hq
    cases hq
theorem tcCk_waits {ops : Array Oper} {TC : List Nat} (h : tcCk ops.toList TC = true) : ∀ (j : Nat) o, ops[j]? = some o → Waits ops o (tcAt TC j) := by
  intro j
  induction j using Nat.strongRecOn with
  | _ j ih =>
    intro o hj L hL hp q hq
    have h1 := List.all_eq_true.1 h (o, j) (List.mem_zipIdx_iff_getElem?.2 (by rw [Array.getElem?_toList]; exact hj))
    simp only [Bool.and_eq_true] at h1
    obtain ⟨x, hx, h2⟩ := uni_bit (subN_bit h1.2 hq)
    obtain ⟨i, hi, rfl⟩ := List.mem_map.1 hx
    have h3 : (oneN i ||| TC.getD i 0).testBit q = true := by rw [← bitN_eq]; exact h2
    rw [Nat.testBit_or, Bool.or_eq_true, ← bitN_eq, ← bitN_eq] at h3
    rcases h3 with h3 | h3
    · rw [oneN_bit.1 h3]; exact hp i hi
    · have hij : i < j := by
        have := List.all_eq_true.1 h1.1.2 i hi
        simpa [Nat.blt_eq] using this
      have hjs : j < ops.size := (Array.getElem?_eq_some_iff.1 hj).1
      have hio : ops[i]? = some (ops[i]'(by omega)) := by simp [show i < ops.size by omega]
      exact ih i hij _ hio L hL (hL i _ hio (hp i hi)) q h3
theorem hideS_length (h : Nat → Bool) : ∀ (k : Nat) (s : Sto), (hideS h k s).length = s.length
  | _, [] => rfl
  | k, e :: s => by simp [hideS, hideS_length h (k + 1) s]
theorem hideS_get (h : Nat → Bool) : ∀ (k : Nat) (s : Sto) (i : Nat), (hideS h k s)[i]? = s[i]?.map fun e => noIf (h (k + i)) e
  | _, [], i => by simp [hideS]
  | k, e :: s, 0 => by simp [hideS]
  | k, e :: s, i + 1 => by
    have := hideS_get h (k + 1) s i
    simp only [hideS, List.getElem?_cons_succ, this]
    rw [show k + 1 + i = k + (i + 1) by omega]
theorem hideS_no {h : Nat → Bool} (hh : ∀ i, h i = false) : ∀ (k : Nat) (s : Sto), hideS h k s = s
  | _, [] => rfl
  | k, e :: s => by rw [hideS, hh k, hideS_no hh (k + 1) s]; rfl
theorem viewQ_eq (TC : List Nat) (ch : List (Nat × Nat)) (s : Sto) (N : List (Nat × Ent)) (Cs : List (Nat × Nat × Ent)) (j : Nat) : viewQ TC ch s N Cs j = viewAt TC ch s N Cs j := by
  unfold viewQ
  split
  · rw [viewAt, hideS_no (h := hid TC [] j) (fun _ => rfl)]
    simp [stoAt, setC, maskN]
  · rfl
theorem setC_length (L : Nat → Bool) : ∀ (Cs : List (Nat × Nat × Ent)) (S : Sto), (setC L Cs S).length = S.length
  | [], _ => rfl
  | c :: cs, S => by
    rw [setC, setC_length L cs]
    cases L c.1 <;> simp
theorem setC_cases {L : Nat → Bool} {i : Nat} {e : Ent} : ∀ {Cs : List (Nat × Nat × Ent)} {S : Sto}, (setC L Cs S)[i]? = some e → S[i]? = some e ∨ ∃ x ∈ Cs, L x.1 = true ∧ x.2 = (i, e) := by
  intro Cs
  induction Cs with
  | nil => intro S h; exact .inl h
  | cons c cs ih =>
    intro S h
    rw [setC] at h
    rcases ih h with h1 | ⟨x, hx, h1, h2⟩
    · cases hc : L c.1 with
      | false => rw [hc] at h1; exact .inl h1
      | true =>
        rw [hc] at h1
        dsimp only at h1
        rw [List.getElem?_set] at h1
        split at h1
        · rename_i hi
          split at h1
          · have he : c.2.2 = e := by simpa using h1
            exact .inr ⟨c, by simp, hc, by rw [← hi, ← he]⟩
          · cases h1
        · exact .inl h1
    · exact .inr ⟨x, by simp [hx], h1, h2⟩
def actC (L : Nat → Bool) (Cs : List (Nat × Nat × Ent)) (i : Nat) : List (Nat × Nat × Ent) := Cs.filter fun c => L c.1 && Nat.beq c.2.1 i
theorem setC_at {L : Nat → Bool} {i : Nat} : ∀ (Cs : List (Nat × Nat × Ent)) (S : Sto), (setC L Cs S)[i]? = match (actC L Cs i).getLast? with | some c => S[i]?.map fun _ => c.2.2 | none => S[i]? := by
  intro Cs
  induction Cs with
  | nil => intro S; rfl
  | cons c cs ih =>
    intro S
    rw [setC, ih]
    have hmap : ∀ (y : Ent), (match L c.1 with | true => S.set c.2.1 c.2.2 | false => S)[i]?.map (fun _ => y) = S[i]?.map fun _ => y := by
      intro y
      cases L c.1 with
      | false => rfl
      | true =>
        dsimp only
        rw [List.getElem?_set]
        split
        · rename_i hi
          subst hi
          split
          · rename_i hlt; simp [hlt]
          · rename_i hlt; simp [Nat.le_of_not_lt hlt]
        · rfl
    simp only [actC, List.filter_cons]
    by_cases hc : (L c.1 && Nat.beq c.2.1 i) = true
    · rw [if_pos hc]
      simp only [Bool.and_eq_true] at hc
      obtain ⟨h1, h2⟩ := hc
      have h2 := Nat.eq_of_beq_eq_true h2
      rw [List.getLast?_cons]
      cases hl : (cs.filter fun c => L c.1 && Nat.beq c.2.1 i).getLast? with
      | some d => simp only [Option.getD_some]; exact hmap _
      | none =>
        simp only [Option.getD_none]
        rw [h1]
        dsimp only
        rw [List.getElem?_set, if_pos h2, h2]
        split
        · rename_i hlt; simp [hlt]
        · rename_i hlt; simp [Nat.le_of_not_lt hlt]
    · rw [if_neg hc]
      cases hl : (cs.filter fun c => L c.1 && Nat.beq c.2.1 i).getLast? with
      | some d => exact hmap _
      | none =>
        cases h1 : L c.1 with
        | false => rfl
        | true =>
          rw [h1] at hc
          have hne : c.2.1 ≠ i := fun h => hc (by rw [h]; simp)
          dsimp only
          rw [List.getElem?_set, if_neg hne]
/-- Operation j, at whatever frame and places that agree on what it looks at. -/
def DGives (P : Program) (ops : Array Oper) (s : Sto) (ρ : Rho) (A : Rho → Act) (j : Nat) (o : Oper) (v : V) (S : Sto) (es : List Ent) (c : Option (Nat × Ent)) : Prop :=
  ∀ (r : Option Nat) ρL, (∀ i, i < s.length → ρL i = ρ i) → ∀ (b : Act) (w : World), b.tmps.size = (A ρL).tmps.size → (∀ t ∈ o.looksAt ops, b.tmps[t]? = (A ρL).tmps[t]?) → Rep ρL S w → ∀ (K : Act → World → Prop) (X : Exit → Act → World → Prop),
    (∀ ρ' w', Acts ρL ρ' w w' S es c → K (b.put o.dst (v.abs ρ')) w') → wpOpIn (Fr r) 0 P ops X j K b w
structure DFact (P : Program) (ops : Array Oper) (TC : List Nat) (ch : List (Nat × Nat)) (s : Sto) (ρ : Rho) (A : Rho → Act) (j : Nat) (o : Oper) (v : V) (N : List (Nat × Ent)) (Cs : List (Nat × Nat × Ent)) (Nj M : List (Nat × Ent)) (es : List Ent) (Cj Cm : List (Nat × Nat × Ent)) (c : Option (Nat × Ent)) : Prop where
  all : N = nexts Nj j es ++ M
  lo : ∀ p ∈ Nj, p.1 < j
  hi : ∀ p ∈ M, j < p.1
  allC : Cs = nextC Cj j c ++ Cm
  loC : ∀ x ∈ Cj, x.1 < j
  hiC : ∀ x ∈ Cm, j < x.1
  vok : v.ok (okF TC s.length (nexts Nj j es) j) = true
  gives : DGives P ops s ρ A j o v (viewAt TC ch s Nj Cj j) es c
/-- The frame in the text's order, at whatever places. -/
def DSim (Δ : List Deferred) (ρ : Rho) (n : Nat) (e : List (Nat × V)) (s : Sto) (m : Nat) (A : Rho → Act) : Prop :=
  ∀ ρL, (∀ i, i < s.length → ρL i = ρ i) → ∀ w, Sim Δ ρL ⟨n, e, List.replicate (s.length + m) .no⟩ (A ρL) w
theorem rep_no (ρ : Rho) (k : Nat) (w : World) : Rep ρ (List.replicate k .no) w := by
  have hn : ∀ (i : Nat) (e : Ent), (List.replicate k Ent.no)[i]? = some e → e = .no := fun i e h => by
    have := List.mem_of_getElem? h
    exact (List.mem_replicate.1 this).2
  exact ⟨fun i e h => by rw [hn i e h]; trivial, fun i j e f he hf ho => by rw [hn i e he] at ho; cases ho⟩
theorem sbd_no (k : Nat) : sbd (List.replicate k .no) := by
  intro i e h
  rw [(List.mem_replicate.1 (List.mem_of_getElem? h)).2]
  trivial
theorem DSim.at {ρ : Rho} {n : Nat} {e : List (Nat × V)} {s : Sto} {m : Nat} {A : Rho → Act} (h : DSim Δ ρ n e s m A) {ρL : Rho} (hag : ∀ i, i < s.length → ρL i = ρ i) {S : Sto} (hlen : S.length = s.length + m) (hb : sbd S) {w : World} (hr : Rep ρL S w) : Sim Δ ρL ⟨n, e, S⟩ (A ρL) w := by
  have h1 := h ρL hag w
  exact ⟨h1.defers, h1.size, h1.tmps, fun t u hu => by have := h1.bd t u hu; simp only [List.length_replicate] at this; rw [hlen]; exact this, hr, hb⟩
theorem DSim.next {ρ : Rho} {n : Nat} {e : List (Nat × V)} {s : Sto} {m : Nat} {A : Rho → Act} (h : DSim Δ ρ n e s m A) {m2 : Nat} (hm : m ≤ m2) {v : V} {dst : Option Tmp} (hv : v.bd (s.length + m2)) : DSim Δ ρ n (putT n e dst v) s m2 (fun ρL => (A ρL).put dst (v.abs ρL)) := by
  intro ρL hag w
  have h1 := h ρL hag w
  have h2 : Sim Δ ρL ⟨n, e, List.replicate (s.length + m2) .no⟩ (A ρL) w := ⟨h1.defers, h1.size, h1.tmps, fun t u hu => by
    have := h1.bd t u hu
    simp only [List.length_replicate] at this ⊢
    exact V.bd_mono (by omega) u this, rep_no _ _ _, sbd_no _⟩
  exact h2.put (dst := dst) (v := v) (rep_no _ _ _) (sbd_no _) (Ext.refl _ _ _) (by rw [List.length_replicate]; exact hv)
def NOk (ops : Array Oper) (TC : List Nat) (b : Nat) (k : Nat) (N : List (Nat × Ent)) : Prop := ∀ p ∈ N, p.1 < k ∧ (∃ o, ops[p.1]? = some o) ∧ p.2.ok (okF TC b N p.1) = true
def COk (ops : Array Oper) (TC : List Nat) (b : Nat) (k : Nat) (N : List (Nat × Ent)) (Cs : List (Nat × Nat × Ent)) : Prop := ∀ x ∈ Cs, x.1 < k ∧ (∃ o, ops[x.1]? = some o) ∧ okAt b N (tcAt TC x.1) x.2.1 = true ∧ x.2.2.ok (okF TC b N x.1) = true
theorem okF_mono {TC : List Nat} {b : Nat} {N M : List (Nat × Ent)} {j i : Nat} (h : okF TC b N j i = true) : okF TC b (N ++ M) j i = true := okAt_mono (fun _ h => h) i h
/-- What stands in the store, of those operations that are done. -/
theorem stoAt_ok {ops : Array Oper} {TC : List Nat} {s : Sto} {k : Nat} {N : List (Nat × Ent)} {Cs : List (Nat × Nat × Ent)} (hs : sbd s) (hN : NOk ops TC s.length k N) (hC : COk ops TC s.length k N Cs) {L : Nat → Bool} {g : Nat → Bool} (hg : ∀ (j : Nat), L j = true → (∃ o, ops[j]? = some o) → g j = true ∧ ∀ q, tcAt TC j q = true → g q = true) {i : Nat} {e : Ent} (he : (stoAt s N Cs L)[i]? = some e) :
    e.okd (okAt s.length N g) s.length ∧ (e.live = true → okAt s.length N g i = true) := by
  have mono : ∀ j, L j = true → (∃ o, ops[j]? = some o) → ∀ x, okF TC s.length N j x = true → okAt s.length N g x = true := by
    intro j hj ho x hx
    obtain ⟨g1, g2⟩ := hg j hj ho
    have := okAt_mono (M := []) (g := g) (fun q hq => by
      rw [Bool.or_eq_true] at hq
      rcases hq with hq | hq
      · rw [Nat.eq_of_beq_eq_true hq]; exact g1
      · exact g2 q hq) x hx
    rwa [List.append_nil] at this
  rcases setC_cases he with h | ⟨x, hx, h1, h2⟩
  · by_cases hi : i < s.length
    · rw [List.getElem?_append_left hi] at h
      exact ⟨.inr ⟨hs i e h, fun k hk => okAt_of_lt hk⟩, fun _ => okAt_of_lt hi⟩
    · rw [List.getElem?_append_right (by omega)] at h
      obtain ⟨p, hp, ⟨h1, rfl⟩ | ⟨h1, rfl⟩⟩ := maskN_get h
      · obtain ⟨_, ho, k3⟩ := hN p (List.mem_of_getElem? hp)
        exact ⟨.inl (Ent.ok_mono (mono p.1 h1 ho) k3), fun _ => okAt_of (by omega) hp (hg p.1 h1 ho).1⟩
      · exact ⟨.inl rfl, fun h => by cases h⟩
  · obtain ⟨_, ho, k2, k3⟩ := hC x hx
    rw [h2] at k2 k3
    refine ⟨.inl (Ent.ok_mono (mono x.1 h1 ho) k3), fun _ => ?_⟩
    have := okAt_mono (M := []) (g := g) (fun q hq => (hg x.1 h1 ho).2 q hq) i k2
    rwa [List.append_nil] at this
theorem stoAt_length (s : Sto) (N : List (Nat × Ent)) (Cs : List (Nat × Nat × Ent)) (L : Nat → Bool) : (stoAt s N Cs L).length = s.length + N.length := by
  rw [stoAt, setC_length, List.length_append, maskN_length]
theorem viewAt_length (TC : List Nat) (ch : List (Nat × Nat)) (s : Sto) (N : List (Nat × Ent)) (Cs : List (Nat × Nat × Ent)) (j : Nat) : (viewAt TC ch s N Cs j).length = s.length + N.length := by
  rw [viewAt, hideS_length, stoAt_length]
theorem viewAt_get {TC : List Nat} {ch : List (Nat × Nat)} {s : Sto} {N : List (Nat × Ent)} {Cs : List (Nat × Nat × Ent)} {j i : Nat} {e : Ent} (h : (viewAt TC ch s N Cs j)[i]? = some e) : e = .no ∨ (hid TC ch j i = false ∧ (stoAt s N Cs (tcAt TC j))[i]? = some e) := by
  rw [viewAt, hideS_get, Nat.zero_add] at h
  obtain ⟨e0, h1, rfl⟩ := Option.map_eq_some_iff.1 h
  cases hh : hid TC ch j i
  · exact .inr ⟨rfl, h1⟩
  · exact .inl rfl
theorem viewAt_sbd {ops : Array Oper} {TC : List Nat} {ch : List (Nat × Nat)} {s : Sto} {k : Nat} {N : List (Nat × Ent)} {Cs : List (Nat × Nat × Ent)} (hs : sbd s) (hN : NOk ops TC s.length k N) (hC : COk ops TC s.length k N Cs) (j : Nat) : sbd (viewAt TC ch s N Cs j) := by
  intro i e he
  rw [viewAt_length]
  rcases viewAt_get he with rfl | ⟨_, h⟩
  · trivial
  · exact Ent.okd_bd (stoAt_ok hs hN hC (g := fun _ => true) (fun _ _ _ => ⟨rfl, fun _ _ => rfl⟩) h).1 (by omega) (fun i hi => okAt_lt hi)
section
variable {P : Program}
theorem wp_move {r : Option Nat} {o : Oper} {a b : Act} {w : World} {Q : Value → World → Prop} (hnd : ∀ c, o.op ≠ .defer c) (h : o.wpIn (Fr r) 0 P a w (fun a' w' => ∃ u, a' = a.put o.dst u ∧ Q u w') (fun _ _ _ => False)) (he : execOp b.eval o = execOp a.eval o) (hs : b.tmps.size = a.tmps.size) (K : Act → World → Prop) (X : Exit → Act → World → Prop) (hK : ∀ u w', Q u w' → K (b.put o.dst u) w') : o.wpIn (Fr r) 0 P b w K X := by
  refine ⟨fun _ _ => trivial, ?_⟩
  have h := h.2
  rw [Oper.semAt_eq _ _ _ hnd] at h ⊢
  rw [he]
  generalize (execOp a.eval o).run P w = x at h
  cases x with
  | ok n w' =>
    cases n <;> simp only [Oper.uponIn] at h ⊢
    case value u => obtain ⟨u', e, q⟩ := h; rw [put_eq e hs]; exact hK _ _ q
    case skip => obtain ⟨u', e, q⟩ := h; rw [put_eq e hs]; exact hK _ _ q
    case defer d =>
      obtain ⟨u', e, q⟩ := h
      have := congrArg Act.defers e
      cases hd : o.dst <;> simp [Act.put, hd] at this
    case enter f args =>
      refine ⟨h.1, CallsIn.mono h.2 fun e w'' he => ?_⟩
      cases e with
      | returned u => dsimp only at he ⊢; obtain ⟨u', e, q⟩ := he; rw [put_eq e hs]; exact hK _ _ q
      | panicked c => exact he.elim
      | outgrown => obtain ⟨_, _, hf⟩ := he; exact hf.elim
    case row row args => exact ⟨h.1, RowsIn.mono h.2 fun u w'' he => by obtain ⟨u', e, q⟩ := he; rw [put_eq e hs]; exact hK _ _ q⟩
    case round l f tmps asg body =>
      refine ⟨h.1, RoundIn.mono h.2 fun e w'' he => ?_⟩
      cases e with
      | returned u => dsimp only at he ⊢; obtain ⟨u', e, q⟩ := he; rw [put_eq e hs]; exact hK _ _ q
      | panicked c => exact he.elim
      | outgrown => obtain ⟨_, _, hf⟩ := he; exact hf.elim
  | halt x w' => cases x <;> simp only [Oper.uponIn] at h
theorem opVal_nd {D : Dh} {op : Op} {e : List (Nat × V)} {s : Sto} {x : V × List Ent × Option (Nat × Ent)} (h : opVal P D op e s = some x) (c : Call) : op ≠ .defer c := fun hc => by rw [hc] at h; simp [opVal, quietVal, stillOp] at h
variable {R : Type} {no : R} {T : R → Prop} (hno : ¬ T no)
include hno
theorem wanted_uni {ops : Array Oper} {o : Oper} {n : Nat} {e : List (Nat × V)} {A B : List (Nat × V) → R} (hk : T (vWantedT no ops.toList o e A B)) :
    ∃ e1 wb, (wb = true → T (A e1)) ∧ (wb = false → T (B e1)) ∧ ∀ ρ s a w, Sim Δ ρ ⟨n, e, s⟩ a w → Region.wanted o (yielded ops a.tmps) = wb ∧ Sim Δ ρ ⟨n, e1, s⟩ a w := by
  unfold vWantedT at hk
  split at hk
  · rename_i hg; exact ⟨e, true, fun _ => hk, fun h => (by cases h), fun ρ s a w h => ⟨by simp [Region.wanted, hg], h⟩⟩
  · rename_i j want hg
    split at hk
    · rename_i oj hoj
      have hoj' : ops[j]? = some oj := by rw [← Array.getElem?_toList]; exact hoj
      split at hk
      · rename_i t ht
        obtain ⟨v, hv, hk⟩ := Wi.out hno hk
        split at hk
        · rename_i b
          have hy : ∀ ρ s a w, Sim Δ ρ ⟨n, e, s⟩ a w → yielded ops a.tmps j = some b := fun ρ s a w h => by
            have hcell := h.tmps t _ hv
            simp [yielded, hoj', ht, hcell, V.abs]
          split at hk
          · rcases Br.out hk with ⟨rfl, hk⟩ | ⟨rfl, hk⟩
            · exact ⟨_, true, fun _ => hk, fun h => (by cases h), fun ρ s a w h => ⟨by simp [Region.wanted, hg, hy ρ s a w h], h.know hv⟩⟩
            · exact ⟨_, false, fun h => (by cases h), fun _ => hk, fun ρ s a w h => ⟨by simp [Region.wanted, hg, hy ρ s a w h], h.know hv⟩⟩
          · rcases Br.out hk with ⟨rfl, hk⟩ | ⟨rfl, hk⟩
            · exact ⟨_, false, fun h => (by cases h), fun _ => hk, fun ρ s a w h => ⟨by simp [Region.wanted, hg, hy ρ s a w h], h.know hv⟩⟩
            · exact ⟨_, true, fun _ => hk, fun h => (by cases h), fun ρ s a w h => ⟨by simp [Region.wanted, hg, hy ρ s a w h], h.know hv⟩⟩
        · rename_i vs
          refine ⟨e, false, fun h => (by cases h), fun _ => hk, fun ρ s a w h => ⟨?_, h⟩⟩
          have hcell := h.tmps t _ hv
          have hy : yielded ops a.tmps j = none := by simp [yielded, hoj', ht, hcell, V.abs]
          simp [Region.wanted, hg, hy]
        · exact (hno hk).elim
      · rename_i ht
        refine ⟨e, false, fun h => (by cases h), fun _ => hk, fun ρ s a w h => ⟨?_, h⟩⟩
        have hy : yielded ops a.tmps j = none := by simp [yielded, hoj', ht]
        simp [Region.wanted, hg, hy]
    · rename_i hoj
      have hoj' : ops[j]? = none := by rw [← Array.getElem?_toList]; exact hoj
      refine ⟨e, false, fun h => (by cases h), fun _ => hk, fun ρ s a w h => ⟨?_, h⟩⟩
      have hy : yielded ops a.tmps j = none := by simp [yielded, hoj']
      simp [Region.wanted, hg, hy]
/-- What a run in the text's order tells of each operation. -/
theorem dqrun_sound {Q : Ch R} {D : Dh} (hQ : PickD T Q D) (hD : DOk P D) {ops : Array Oper} {TC : List Nat} {ch : List (Nat × Nat)} {n : Nat} {s : Sto} (hsb : sbd s) {ρ : Rho} {K : List (Nat × V) → List (Nat × Ent) → List (Nat × Nat × Ent) → R} : ∀ (l : List Oper) (k : Nat) (e : List (Nat × V)) (N : List (Nat × Ent)) (Cs : List (Nat × Nat × Ent)) (A : Rho → Act),
    (∀ (j : Nat) o, l[j]? = some o → ops[k + j]? = some o) → (∀ o ∈ l, ∀ cs x, o.op ≠ .select cs x) → DSim Δ ρ n e s N.length A → NOk ops TC s.length k N → COk ops TC s.length k N Cs → T (dqrun no P Q n ops.toList TC ch s K l k e N Cs) →
    ∃ vs e' N' M Cs' C, T (K e' N' Cs') ∧ vs.length = l.length ∧ N' = N ++ M ∧ Cs' = Cs ++ C ∧ (∀ p ∈ M, k ≤ p.1) ∧ (∀ x ∈ C, k ≤ x.1) ∧ NOk ops TC s.length (k + l.length) N' ∧ COk ops TC s.length (k + l.length) N' Cs' ∧ DSim Δ ρ n e' s N'.length (fun ρL => actT ρL (A ρL) l vs) ∧
      ∀ (j : Nat) o v, l[j]? = some o → vs[j]? = some v → ∃ Nj Mj es Cj Cm c, DFact P ops TC ch s ρ (fun ρL => actT ρL (A ρL) (l.take j) (vs.take j)) (k + j) o v N' Cs' Nj Mj es Cj Cm c := by
  intro l
  induction l with
  | nil => intro k e N Cs A _ _ hS hN hC hq; exact ⟨[], e, N, [], Cs, [], hq, rfl, by simp, by simp, by simp, by simp, hN, hC, hS, fun j o v hj => by simp at hj⟩
  | cons o l ih =>
    intro k e N Cs A hops hsel hS hN hC hq
    simp only [dqrun, fl_eq, viewQ_eq] at hq
    have hj : ops[k]? = some o := hops 0 o rfl
    have hso := hsel o (by simp)
    have key : ∀ (v : V) (es : List Ent) (c : Option (Nat × Ent)) (e1 : List (Nat × V)), DSim Δ ρ n e1 s N.length A → okR TC s.length N (nexts N k es) k (v, es, c) = true → DGives P ops s ρ A k o v (viewAt TC ch s N Cs k) es c →
        T (dqrun no P Q n ops.toList TC ch s K l (k + 1) (putT n e1 o.dst v) (nexts N k es) (nextC Cs k c)) →
        ∃ vs e' N' M Cs' C, T (K e' N' Cs') ∧ vs.length = (o :: l).length ∧ N' = N ++ M ∧ Cs' = Cs ++ C ∧ (∀ p ∈ M, k ≤ p.1) ∧ (∀ x ∈ C, k ≤ x.1) ∧ NOk ops TC s.length (k + (o :: l).length) N' ∧ COk ops TC s.length (k + (o :: l).length) N' Cs' ∧ DSim Δ ρ n e' s N'.length (fun ρL => actT ρL (A ρL) (o :: l) vs) ∧
          ∀ (j : Nat) p u, (o :: l)[j]? = some p → vs[j]? = some u → ∃ Nj Mj es Cj Cm c, DFact P ops TC ch s ρ (fun ρL => actT ρL (A ρL) ((o :: l).take j) (vs.take j)) (k + j) p u N' Cs' Nj Mj es Cj Cm c := by
      intro v es c e1 hS1 hok hg hq
      simp only [okR, Bool.and_eq_true] at hok
      obtain ⟨⟨hv, he⟩, hc⟩ := hok
      have hM0 : nexts N k es = N ++ es.map fun e => (k, e) := rfl
      have hN2 : NOk ops TC s.length (k + 1) (nexts N k es) := by
        intro p hp
        rcases List.mem_append.1 hp with h | h
        · obtain ⟨h1, h2, h4⟩ := hN p h
          exact ⟨by omega, h2, Ent.ok_mono (fun i hi => by rw [hM0]; exact okF_mono hi) h4⟩
        · obtain ⟨ent, hent, rfl⟩ := List.mem_map.1 h
          exact ⟨by simp, ⟨o, hj⟩, List.all_eq_true.1 he ent hent⟩
      have hC2 : COk ops TC s.length (k + 1) (nexts N k es) (nextC Cs k c) := by
        have hold : ∀ x ∈ Cs, x.1 < k + 1 ∧ (∃ o, ops[x.1]? = some o) ∧ okAt s.length (nexts N k es) (tcAt TC x.1) x.2.1 = true ∧ x.2.2.ok (okF TC s.length (nexts N k es) x.1) = true := fun x hx => by
          obtain ⟨h1, h2, h3, h4⟩ := hC x hx
          exact ⟨by omega, h2, by rw [hM0]; exact okAt_mono (fun _ h => h) _ h3, Ent.ok_mono (fun i hi => by rw [hM0]; exact okF_mono hi) h4⟩
        intro x hx
        cases c with
        | none => exact hold x hx
        | some y =>
          rcases List.mem_append.1 hx with h | h
          · exact hold x h
          · obtain rfl : x = (k, y.1, y.2) := by simpa using h
            simp only [Bool.and_eq_true] at hc
            exact ⟨by simp, ⟨o, hj⟩, by rw [hM0]; exact okAt_mono (fun _ h => h) _ hc.2, hc.1⟩
      have hbd : v.bd (s.length + (nexts N k es).length) := V.bd_ok (fun i hi => okAt_lt hi) v hv
      obtain ⟨vs, e', N', M, Cs', C, i0, i1, i2, j2, i3, j3, i4, j4, i5, i6⟩ := ih (k + 1) _ _ _ _ (fun j o' hj => by have := hops (j + 1) o' (by simpa using hj); rwa [show k + (j + 1) = k + 1 + j by omega] at this) (fun o' ho' => hsel o' (by simp [ho'])) (hS1.next (m2 := (nexts N k es).length) (dst := o.dst) (by rw [hM0]; simp) hbd) hN2 hC2 hq
      have hlen : k + (o :: l).length = k + 1 + l.length := by simp only [List.length_cons]; omega
      have hnc : ∃ C0, nextC Cs k c = Cs ++ C0 ∧ ∀ x ∈ C0, k ≤ x.1 := by
        cases c with
        | none => exact ⟨[], by simp [nextC], by simp⟩
        | some y => exact ⟨_, rfl, fun x hx => by obtain rfl : x = (k, y.1, y.2) := by simpa using hx
                                                  exact Nat.le_refl _⟩
      obtain ⟨C0, hC0, hC0k⟩ := hnc
      refine ⟨v :: vs, e', N', (es.map fun e => (k, e)) ++ M, Cs', C0 ++ C, i0, by simp [i1], by rw [i2, hM0, List.append_assoc], by rw [j2, hC0, List.append_assoc], fun p hp => ?_, fun x hx => ?_, by rw [hlen]; exact i4, by rw [hlen]; exact j4, i5, fun j o' v' hj' hv' => ?_⟩
      · rcases List.mem_append.1 hp with h | h
        · obtain ⟨ent, hent, rfl⟩ := List.mem_map.1 h
          exact Nat.le_refl _
        · have := i3 p h; omega
      · rcases List.mem_append.1 hx with h | h
        · exact hC0k x h
        · have := j3 x h; omega
      · cases j with
        | zero =>
          simp only [List.getElem?_cons_zero, Option.some.injEq] at hj' hv'
          subst hj' hv'
          exact ⟨N, M, es, Cs, C, c, i2, fun p hp => (hN p hp).1, fun p hp => i3 p hp, j2, fun x hx => (hC x hx).1, fun x hx => j3 x hx, hv, hg⟩
        | succ j =>
          have := i6 j o' v' (by simpa using hj') (by simpa using hv')
          rw [show k + (j + 1) = k + 1 + j by omega]
          exact this
    obtain ⟨e1, wb, h1, h2, h3⟩ := wanted_uni hno hq
    have hS1 : DSim Δ ρ n e1 s N.length A := fun ρL hag w => (h3 ρL _ _ w (hS ρL hag w)).2
    have hwn : ∀ ρL, (∀ i, i < s.length → ρL i = ρ i) → Region.wanted o (yielded ops (A ρL).tmps) = wb := fun ρL hag => (h3 ρL _ _ default (hS ρL hag default)).1
    cases wb with
    | true =>
      obtain ⟨⟨v, es, c⟩, hval, hq⟩ := opValC_pick hno hQ (h1 rfl)
      split at hq
      · rename_i hok
        refine key v es c e1 hS1 hok ?_ hq
        intro r ρL hag b w hsz hlk hr K X hK
        obtain ⟨c1, c2⟩ := looks_same hso hlk
        unfold wpOpIn
        simp only [hj]
        rw [c2, if_pos (hwn ρL hag)]
        refine (wp_move (a := A ρL) (opVal_nd hval) (Q := fun u w' => ∃ ρ', u = v.abs ρ' ∧ Acts ρL ρ' w w' (viewAt TC ch s N Cs k) es c) ?_ c1 hsz K X ?_)
        · exact opVal_sound hD (hS1.at hag (viewAt_length TC ch s N Cs k) (viewAt_sbd hsb hN hC k) hr) hval fun ρ' w' r => ⟨_, rfl, ρ', rfl, r⟩
        · rintro u w' ⟨ρ', rfl, r⟩
          exact hK ρ' w' r
      · exact (hno hq).elim
    | false =>
      have hn0 : nexts N k [] = N := by simp [nexts]
      refine key (.raw undef) [] none e1 hS1 rfl ?_ (by rw [hn0]; exact h2 rfl)
      intro r ρL hag b w hsz hlk hr K X hK
      obtain ⟨c1, c2⟩ := looks_same hso hlk
      unfold wpOpIn
      simp only [hj]
      rw [c2, if_neg (by simp [hwn ρL hag])]
      exact ⟨fun _ _ => trivial, hK ρL w (News.none (Same.refl w)).acts⟩
end
end Go.Proofs.YtalgegmcllcnmaaRL
end
section
/- RL: regions that draw their order, new blocks among what is done: in whatever order. -/
namespace Go.Proofs.YtalgegmcllcnmaaRL
open Go
set_option linter.unusedVariables false
set_option linter.unusedSimpArgs false
variable {Δ : List Deferred}
def wrOf : List Oper → Nat → List (Nat × Nat × Nat)
  | [], _ => []
  | o :: os, j => match o.dst with
    | some t => (t, j, pmask (preds o)) :: wrOf os (j + 1)
    | none => wrOf os (j + 1)
def distN : List (Nat × Nat × Nat) → Bool
  | [] => true
  | p :: ps => ps.all (fun q => !(Nat.beq q.1 p.1)) && distN ps
def opF (W : List (Nat × Nat × Nat)) (ps lk : List Nat) (j : Nat) : Bool := ps.all (fun i => Nat.blt i j) && lk.all fun t => W.all fun p => match Nat.beq p.1 t with
  | true => bitN (pmask ps) p.2.1 || bitN p.2.2 j
  | false => true
def opsFG (A : Array Oper) (W : List (Nat × Nat × Nat)) : List Oper → Nat → Bool
  | [], _ => true
  | o :: os, j => (flA (preds o) fun ps => flA (o.looksAt A) fun lk => opF W ps lk j) && (match o.op with | .select _ _ => false | _ => true) && opsFG A W os (j + 1)
/-- As opsOk, but soon reckoned. -/
def opsF (ops : List Oper) : Bool := flA (wrOf ops 0) fun W => distN W && opsFG ops.toArray W ops 0
theorem wrOf_mem : ∀ {l : List Oper} {k j : Nat} {o : Oper} {t : Nat}, l[j]? = some o → o.dst = some t → (t, k + j, pmask (preds o)) ∈ wrOf l k := by
  intro l
  induction l with
  | nil => intro k j o t h; simp at h
  | cons x xs ih =>
    intro k j o t h hd
    cases j with
    | zero =>
      obtain rfl : x = o := by simpa using h
      rw [wrOf, hd]
      simp
    | succ j =>
      have := ih (k := k + 1) (j := j) (by simpa using h) hd
      rw [show k + (j + 1) = k + 1 + j by omega, wrOf]
      split
      · exact List.mem_cons_of_mem _ this
      · exact this
theorem opsFG_ok {ops : List Oper} {W : List (Nat × Nat × Nat)} (hW : ∀ (j : Nat) o t, ops[j]? = some o → o.dst = some t → (t, j, pmask (preds o)) ∈ W) : ∀ {l : List Oper} {k : Nat}, (∀ j o, l[j]? = some o → ops[k + j]? = some o) → distN (wrOf l k) = true → opsFG ops.toArray W l k = true → opsOk ops l k = true := by
  intro l
  induction l with
  | nil => intro k _ _ _; rfl
  | cons o os ih =>
    intro k hops hd h
    simp only [opsFG, flA_eq, Bool.and_eq_true] at h
    obtain ⟨⟨h1, h2⟩, h3⟩ := h
    simp only [opF, Bool.and_eq_true] at h1
    have hd2 : distN (wrOf os (k + 1)) = true ∧ os.all (fun p => !(p.dst == o.dst && o.dst.isSome)) = true := by
      cases ho : o.dst with
      | none =>
        rw [wrOf, ho] at hd
        exact ⟨hd, List.all_eq_true.2 fun p _ => by simp⟩
      | some t =>
        rw [wrOf, ho] at hd
        simp only [distN, Bool.and_eq_true] at hd
        refine ⟨hd.2, List.all_eq_true.2 fun p hp => ?_⟩
        cases hpd : p.dst with
        | none => simp
        | some u =>
          obtain ⟨i, hi⟩ := List.getElem?_of_mem hp
          have := List.all_eq_true.1 hd.1 _ (wrOf_mem (k := k + 1) hi hpd)
          have hne : u ≠ t := fun e => by rw [e, Nat.beq_refl] at this; cases this
          simp [hne]
    rw [opsOk, Bool.and_eq_true, Bool.and_eq_true]
    refine ⟨⟨?_, hd2.2⟩, ih (fun j p hj => by have := hops (j + 1) p (by simpa using hj); rwa [show k + (j + 1) = k + 1 + j by omega] at this) hd2.1 h3⟩
    simp only [opOk, Bool.and_eq_true]
    refine ⟨⟨h1.1, List.all_eq_true.2 fun t ht => List.all_eq_true.2 fun p hp => ?_⟩, h2⟩
    have hpi := List.mem_zipIdx_iff_getElem?.1 hp
    cases hpd : p.1.dst with
    | none => simp
    | some u =>
      by_cases hut : u = t
      · subst hut
        have := List.all_eq_true.1 (List.all_eq_true.1 h1.2 u ht) _ (hW p.2 p.1 u hpi hpd)
        simp only [Nat.beq_refl, Bool.or_eq_true] at this
        rcases this with h | h
        · have := pmask_bit h
          simp [this]
        · have := pmask_bit h
          simp [this]
      · simp [hut]
theorem opsF_ok {ops : List Oper} (h : opsF ops = true) : opsOk ops ops 0 = true := by
  simp only [opsF, flA_eq, Bool.and_eq_true] at h
  refine opsFG_ok (fun j o t hj hd => ?_) (fun j o hj => by rw [Nat.zero_add]; exact hj) h.1 h.2
  have := wrOf_mem (k := 0) hj hd
  rwa [Nat.zero_add] at this
section
variable {P : Program} {ρ : Rho} {st : St}
/-- How far an order has come: the operations that are done, all of the head; the places; the frame; the store. -/
structure InvD (P : Program) (ops : Array Oper) (ρ : Rho) (s : Sto) (w0 : World) (a0 : Act) (vs : List V) (N : List (Nat × Ent)) (Cs : List (Nat × Nat × Ent)) (m : Nat) (listed : Array Bool) (ρL : Rho) (a : Act) (w : World) : Prop where
  size : listed.size = ops.size
  head : ∀ j, m ≤ j → listed.getD j false = false
  closed : ∀ (j : Nat) o, ops[j]? = some o → listed.getD j false = true → ∀ i ∈ preds o, listed.getD i false = true
  tsize : a.tmps.size = a0.tmps.size
  defers : a.defers = a0.defers
  agree : ∀ i, i < s.length → ρL i = ρ i
  val : ∀ (j : Nat) o v t, ops[j]? = some o → vs[j]? = some v → listed.getD j false = true → o.dst = some t → t < a0.tmps.size → a.tmps[t]? = some (v.abs ρL)
  old : ∀ t, (∀ (j : Nat) o, ops[j]? = some o → listed.getD j false = true → o.dst ≠ some t) → a.tmps[t]? = a0.tmps[t]?
  rep : Rep ρL (stoAt s N Cs fun q => listed.getD q false) w
  ext : Ext s ρ w0 (stoAt s N Cs fun q => listed.getD q false) ρL w
/-- What is known of a region's operations, as a whole. -/
structure AllOk (ops : Array Oper) (TC : List Nat) (ch : List (Nat × Nat)) (s : Sto) (N : List (Nat × Ent)) (Cs : List (Nat × Nat × Ent)) : Prop where
  sb : sbd s
  n : NOk ops TC s.length ops.size N
  c : COk ops TC s.length ops.size N Cs
  tc : tcCk ops.toList TC = true
  told : ∀ x ∈ Cs, (x.1, x.2.1) ∈ ch
  ord : ∀ x ∈ Cs, ∀ y ∈ Cs, x.1 < y.1 → x.2.1 = y.2.1 → tcAt TC y.1 x.1 = true
theorem AllOk.closed {ops : Array Oper} {TC : List Nat} {ch : List (Nat × Nat)} {s : Sto} {N : List (Nat × Ent)} {Cs : List (Nat × Nat × Ent)} (h : AllOk ops TC ch s N Cs) {L : Nat → Bool} (hL : Closed ops L) (q : Nat) (hq : L q = true) (ho : ∃ o, ops[q]? = some o) : L q = true ∧ ∀ t, tcAt TC q t = true → L t = true := by
  obtain ⟨o, ho⟩ := ho
  exact ⟨hq, fun t ht => tcCk_waits h.tc q o ho L hL (fun y hy => hL q o ho hq y hy) t ht⟩
/-- What an operation sees stands there, whatever else is done. -/
theorem view_less {ops : Array Oper} {TC : List Nat} {ch : List (Nat × Nat)} {s : Sto} {N Nj M : List (Nat × Ent)} {es : List Ent} {Cs Cj Cm : List (Nat × Nat × Ent)} {c : Option (Nat × Ent)} {L : Nat → Bool} {j : Nat} {o : Oper} (h : AllOk ops TC ch s N Cs) (ho : ops[j]? = some o) (hall : N = nexts Nj j es ++ M) (hallC : Cs = nextC Cj j c ++ Cm) (hhiC : ∀ x ∈ Cm, j < x.1)
    (hL : Closed ops L) (hp : ∀ p ∈ preds o, L p = true) (hj : L j = false) (i : Nat) (e : Ent) (he : (viewAt TC ch s Nj Cj j)[i]? = some e) : e = .no ∨ (stoAt s N Cs L)[i]? = some e := by
  rcases viewAt_get he with h1 | ⟨hh, he⟩
  · exact .inl h1
  have hf : ∀ q, tcAt TC j q = true → L q = true := fun q hq => tcCk_waits h.tc j o ho L hL hp q hq
  have G : ∀ x ∈ Cs, L x.1 = true → x.2.1 = i → tcAt TC j x.1 = true := by
    intro x hx hl hi
    have h1 := h.told x hx
    have h2 := (List.any_eq_false.1 hh) _ h1
    obtain ⟨_, hox, _⟩ := h.c x hx
    have h3 : Nat.beq x.1 j = false := by
      cases hb : Nat.beq x.1 j with
      | false => rfl
      | true => rw [Nat.eq_of_beq_eq_true hb, hj] at hl; cases hl
    have h4 : tcAt TC x.1 j = false := by
      cases hb : tcAt TC x.1 j with
      | false => rfl
      | true => have := (h.closed hL x.1 hl hox).2 j hb; rw [hj] at this; cases this
    subst hi
    simpa [h3, h4, Nat.beq_refl] using h2
  have hC0 : ∃ C0, Cs = Cj ++ C0 ∧ ∀ x ∈ C0, j ≤ x.1 := by
    cases c with
    | none => exact ⟨Cm, hallC, fun x hx => Nat.le_of_lt (hhiC x hx)⟩
    | some y => exact ⟨(j, y.1, y.2) :: Cm, by rw [hallC]; simp [nextC], fun x hx => by
        rcases List.mem_cons.1 hx with rfl | hx
        · exact Nat.le_refl _
        · exact Nat.le_of_lt (hhiC x hx)⟩
  obtain ⟨C0, hC0, hC0j⟩ := hC0
  have hact : actC L Cs i = actC (tcAt TC j) Cj i := by
    have e1 : actC L C0 i = [] := by
      refine List.filter_eq_nil_iff.2 fun x hx hb => ?_
      simp only [Bool.and_eq_true] at hb
      have hg := G x (by rw [hC0]; simp [hx]) hb.1 (Nat.eq_of_beq_eq_true hb.2)
      have := tcCk_lt h.tc ho hg
      have := hC0j x hx
      omega
    have e2 : actC L Cj i = actC (tcAt TC j) Cj i := by
      refine List.filter_congr fun x hx => ?_
      cases hb : Nat.beq x.2.1 i with
      | false => simp
      | true =>
        simp only [Bool.and_true]
        cases hl : L x.1 with
        | true => exact (G x (by rw [hC0]; simp [hx]) hl (Nat.eq_of_beq_eq_true hb)).symm
        | false =>
          cases ht : tcAt TC j x.1 with
          | false => rfl
          | true => rw [hf _ ht] at hl; cases hl
    have : actC L (Cj ++ C0) i = actC L Cj i ++ actC L C0 i := by simp [actC]
    rw [hC0, this, e1, e2, List.append_nil]
  rw [stoAt, setC_at] at he ⊢
  rw [hact]
  have hN0 : N = Nj ++ ((es.map fun e => (j, e)) ++ M) := by rw [hall, nexts, List.append_assoc]
  cases hl : (actC (tcAt TC j) Cj i).getLast? with
  | some d =>
    rw [hl] at he
    dsimp only at he ⊢
    obtain ⟨e1, h1, rfl⟩ := Option.map_eq_some_iff.1 he
    have hlt : i < (s ++ maskN L N).length := by
      have := (List.getElem?_eq_some_iff.1 h1).1
      rw [List.length_append, maskN_length] at this ⊢
      rw [hN0, List.length_append]
      omega
    right
    rw [List.getElem?_eq_getElem hlt]
    rfl
  | none =>
    rw [hl] at he
    dsimp only at he ⊢
    rw [hN0]
    exact mask_less hf i e he
/-- One more operation is done: the store. -/
theorem act_step {ops : Array Oper} {TC : List Nat} {ch : List (Nat × Nat)} {s S : Sto} {w0 w w' : World} {N Nj M : List (Nat × Ent)} {es : List Ent} {Cs Cj Cm : List (Nat × Nat × Ent)} {c : Option (Nat × Ent)} {L : Nat → Bool} {j : Nat} {ρL ρ' : Rho} (h : AllOk ops TC ch s N Cs) (hall : N = nexts Nj j es ++ M) (hlo : ∀ p ∈ Nj, p.1 < j) (hhi : ∀ p ∈ M, j < p.1) (hallC : Cs = nextC Cj j c ++ Cm) (hloC : ∀ x ∈ Cj, x.1 < j) (hhiC : ∀ x ∈ Cm, j < x.1) (hL : Closed ops L) (hj : L j = false)
    (agree : ∀ i, i < s.length → ρL i = ρ i) (rep : Rep ρL (stoAt s N Cs L) w) (ext : Ext s ρ w0 (stoAt s N Cs L) ρL w) (hSlen : S.length = s.length + Nj.length) (hS : ∀ (i : Nat) (e : Ent), S[i]? = some e → e = .no ∨ (stoAt s N Cs L)[i]? = some e) (r : Acts ρL ρ' w w' S es c)
    {L' : Nat → Bool} (hL'j : L' j = true) (hL' : ∀ q, q ≠ j → L' q = L q) :
    (∀ i, okAt s.length N L i = true → ρ' i = ρL i) ∧ Rep ρ' (stoAt s N Cs L') w' ∧ Ext s ρ w0 (stoAt s N Cs L') ρ' w' := by
  have hcl := fun q hq ho => h.closed hL q hq ho
  have hNi : ∀ k p, N[k]? = some p → p.1 = j → Nj.length ≤ k ∧ k < Nj.length + es.length ∧ es[k - Nj.length]? = some p.2 := by
    intro k p hk hpj
    have hnM : ∀ k : Nat, M[k]? = some p → False := fun k hk => by have := hhi p (List.mem_of_getElem? hk); omega
    have hnN : ∀ k : Nat, Nj[k]? = some p → False := fun k hk => by have := hlo p (List.mem_of_getElem? hk); omega
    rw [hall, nexts, List.append_assoc] at hk
    rcases Nat.lt_or_ge k Nj.length with hlt | hge
    · rw [List.getElem?_append_left hlt] at hk; exact (hnN _ hk).elim
    · rw [List.getElem?_append_right hge] at hk
      rcases Nat.lt_or_ge (k - Nj.length) es.length with hlt | hge2
      · rw [List.getElem?_append_left (by rw [List.length_map]; exact hlt), List.getElem?_map] at hk
        obtain ⟨ent, h3, rfl⟩ := Option.map_eq_some_iff.1 hk
        exact ⟨hge, by omega, h3⟩
      · rw [List.getElem?_append_right (by rw [List.length_map]; exact hge2)] at hk
        exact (hnM _ hk).elim
  have hNew : ∀ k, Nj.length ≤ k → k < Nj.length + es.length → ∃ p, N[k]? = some p ∧ p.1 = j := by
    intro k h1 h2
    rw [hall, nexts, List.append_assoc, List.getElem?_append_right h1, List.getElem?_append_left (by rw [List.length_map]; omega)]
    refine ⟨(j, es[k - Nj.length]'(by omega)), ?_, rfl⟩
    rw [List.getElem?_map, List.getElem?_eq_getElem (by omega)]
    rfl
  have hag : ∀ i, okAt s.length N L i = true → ρ' i = ρL i := by
    intro i hi
    refine r.old i ?_
    rw [hSlen]
    rcases okAt_cases hi with h | ⟨p, h1, h2, h3⟩
    · exact .inl (by omega)
    · rcases Nat.lt_or_ge i (s.length + Nj.length) with hlt | hge
      · exact .inl hlt
      · right
        rcases Nat.lt_or_ge i (s.length + Nj.length + es.length) with hlt | hge2
        · exfalso
          obtain ⟨q, h4, h5⟩ := hNew (i - s.length) (by omega) (by omega)
          rw [h4] at h2
          obtain rfl := Option.some.inj h2
          rw [h5, hj] at h3; cases h3
        · exact hge2
  have okc : ∀ x ∈ Cs, L x.1 = true → okAt s.length N L x.2.1 = true := by
    intro x hx hl
    obtain ⟨_, ho, h3, _⟩ := h.c x hx
    have := okAt_mono (M := []) (g := L) (fun q hq => (hcl x.1 hl ho).2 q hq) _ h3
    rwa [List.append_nil] at this
  have hchg : ∀ i e, c = some (i, e) → ∃ e0, (stoAt s N Cs L)[i]? = some e0 ∧ e0.isOwn = true ∧ i < S.length ∧ (e.live = true → RepE ρ' w' i e ∧ es = []) := by
    intro i e hc
    obtain ⟨⟨e0, h3, h4⟩, h5⟩ := r.chg i e hc
    refine ⟨e0, ?_, h4, (List.getElem?_eq_some_iff.1 h3).1, fun hl => ?_⟩
    rotate_left
    · rcases h5 with ⟨h1, _, h2⟩ | rfl
      · exact ⟨h1, h2⟩
      · cases hl
    rcases hS i e0 h3 with rfl | h6
    · cases h4
    · exact h6
  have hx1 : ∀ x ∈ Cs, x.1 = j → ∃ y, c = some y ∧ x = (j, y.1, y.2) := by
    intro x hx hxj
    rw [hallC] at hx
    rcases List.mem_append.1 hx with h1 | h1
    · cases c with
      | none => have := hloC x h1; omega
      | some y =>
        rcases List.mem_append.1 h1 with h2 | h2
        · have := hloC x h2; omega
        · exact ⟨y, rfl, by simpa using h2⟩
    · have := hhiC x h1; omega
  have hsame : ∀ i, (∀ e, c ≠ some (i, e)) → actC L' Cs i = actC L Cs i := by
    intro i hi
    refine List.filter_congr fun x hx => ?_
    by_cases hxj : x.1 = j
    · obtain ⟨y, hy, rfl⟩ := hx1 x hx hxj
      have hne : Nat.beq y.1 i = false := by
        cases hb : Nat.beq y.1 i with
        | false => rfl
        | true => exact absurd (by rw [hy, ← Nat.eq_of_beq_eq_true hb]) (hi y.2)
      simp [hne]
    · rw [hL' _ hxj]
  have hbase : ∀ i, (∀ p, s.length ≤ i → N[i - s.length]? = some p → p.1 ≠ j) → (s ++ maskN L' N)[i]? = (s ++ maskN L N)[i]? := by
    intro i hi
    rcases Nat.lt_or_ge i s.length with hlt | hge
    · rw [List.getElem?_append_left hlt, List.getElem?_append_left hlt]
    · rw [List.getElem?_append_right hge, List.getElem?_append_right hge]
      simp only [maskN, List.getElem?_map]
      cases hp : N[i - s.length]? with
      | none => rfl
      | some p => simp only [Option.map_some, hL' _ (hi p hge hp)]
  have cases' : ∀ (i : Nat) (e : Ent), (stoAt s N Cs L')[i]? = some e → e.live = true → ((stoAt s N Cs L)[i]? = some e ∧ okAt s.length N L i = true ∧ ∀ e0, c ≠ some (i, e0)) ∨ (∃ m, i = S.length + m ∧ es[m]? = some e) ∨ c = some (i, e) := by
    intro i e he hl
    by_cases hci : ∃ e0, c = some (i, e0)
    · obtain ⟨e0, hc⟩ := hci
      right; right
      rw [stoAt, setC_at] at he
      have hlast : (actC L' Cs i).getLast? = some (j, i, e0) := by
        have hCm : actC L' Cm i = [] := by
          refine List.filter_eq_nil_iff.2 fun x hx hb => ?_
          simp only [Bool.and_eq_true] at hb
          have hxj := hhiC x hx
          have hxC : x ∈ Cs := by rw [hallC]; simp [hx]
          have hlx : L x.1 = true := by rw [← hL' _ (by omega)]; exact hb.1
          have hjC : (j, i, e0) ∈ Cs := by rw [hallC, hc]; simp [nextC]
          have := h.ord _ hjC x hxC hxj (Nat.eq_of_beq_eq_true hb.2).symm
          obtain ⟨_, ho, _⟩ := h.c x hxC
          have := (hcl x.1 hlx ho).2 j this
          rw [hj] at this; cases this
        have e1 : actC L' Cs i = actC L' Cj i ++ [(j, i, e0)] ++ actC L' Cm i := by
          rw [hallC, hc]
          simp [actC, nextC, hL'j, Nat.beq_refl]
        rw [e1, hCm, List.append_nil, List.getLast?_append]
        rfl
      rw [hlast] at he
      dsimp only at he
      obtain ⟨_, _, rfl⟩ := Option.map_eq_some_iff.1 he
      exact hc
    · have hne : ∀ e0, c ≠ some (i, e0) := fun e0 hc => hci ⟨e0, hc⟩
      by_cases hnew : s.length + Nj.length ≤ i ∧ i < s.length + Nj.length + es.length
      · right; left
        obtain ⟨p, hp, hpj⟩ := hNew (i - s.length) (by omega) (by omega)
        have hact : actC L' Cs i = [] := by
          rw [hsame i hne]
          refine List.filter_eq_nil_iff.2 fun x hx hb => ?_
          simp only [Bool.and_eq_true] at hb
          have h2 := okc x hx hb.1
          rw [Nat.eq_of_beq_eq_true hb.2] at h2
          rcases okAt_cases h2 with h3 | ⟨q, h3, h4, h5⟩
          · omega
          · rw [hp] at h4
            obtain rfl := Option.some.inj h4
            rw [hpj, hj] at h5; cases h5
        rw [stoAt, setC_at, hact] at he
        dsimp only [List.getLast?_nil] at he
        rw [List.getElem?_append_right (by omega)] at he
        obtain ⟨q, hq, ⟨h1, rfl⟩ | ⟨h1, rfl⟩⟩ := maskN_get he
        · rw [hp] at hq
          obtain rfl := Option.some.inj hq
          obtain ⟨k1, k2, k3⟩ := hNi _ p hp hpj
          exact ⟨i - s.length - Nj.length, by omega, k3⟩
        · cases hl
      · left
        have hb : (s ++ maskN L' N)[i]? = (s ++ maskN L N)[i]? := hbase i fun p hge hp hpj => by
          obtain ⟨k1, k2, k3⟩ := hNi _ p hp hpj
          omega
        have he2 : (stoAt s N Cs L)[i]? = some e := by
          rw [stoAt, setC_at] at he ⊢
          rw [hsame i hne, hb] at he
          exact he
        exact ⟨he2, (stoAt_ok h.sb h.n h.c hcl he2).2 hl, hne⟩
  have hother : ∀ i e, (stoAt s N Cs L)[i]? = some e → e.live = true → (∀ e0, c ≠ some (i, e0)) → ∀ i1 e1, c = some (i1, e1) → (ρL i1).1 ≠ (ρL i).1 := by
    intro i e he hl hne i1 e1 hc
    obtain ⟨e0, h1, h2, _⟩ := hchg i1 e1 hc
    refine rep.sep i1 i e0 e h1 he h2 hl ?_
    rintro rfl
    exact hne e1 hc
  refine ⟨hag, ⟨fun i e he => ?_, fun i k e f he hf ho hl hik => ?_⟩, ⟨by rw [stoAt_length]; omega, fun i hi => by rw [hag i (okAt_of_lt hi), agree i hi], fun i e he ho => ?_, r.os.trans ext.os, r.tape.trans ext.tape, r.output.trans ext.output, Nat.le_trans ext.size r.size, fun b hb hn => ?_⟩⟩
  · cases hlv : e.live with
    | false => cases e <;> simp_all [Ent.live, RepE]
    | true =>
      rcases cases' i e he hlv with ⟨h1, h2, h3⟩ | ⟨m, rfl, h2⟩ | h2
      · have h0 := rep.ent i e h1
        exact RepE.okd (f := okAt s.length N L) hag (hag i h2) (stoAt_ok h.sb h.n h.c hcl h1).1 (r.block _ (h0.lt hlv) (hother i e h1 hlv h3)) r.size h0
      · exact (r.ent m e h2 hlv).1
      · obtain ⟨e0, _, _, _, k4⟩ := hchg i e h2
        exact (k4 hlv).1
  · rcases cases' i e he (Ent.own_live ho) with ⟨a1, a2, a3⟩ | ⟨m, a1, a2⟩ | a1 <;> rcases cases' k f hf hl with ⟨b1, b2, b3⟩ | ⟨m2, b1, b2⟩ | b1
    · rw [hag i a2, hag k b2]; exact rep.sep i k e f a1 b1 ho hl hik
    · subst b1
      have := (rep.ent i e a1).lt (Ent.own_live ho)
      rw [hag i a2]
      rcases (r.ent m2 f b2 hl).2 with h4 | ⟨i1, hc, h4⟩
      · omega
      · rw [h4]; exact fun hh => hother i e a1 (Ent.own_live ho) a3 i1 _ hc hh.symm
    · obtain ⟨e0, k1, k2, k3, _⟩ := hchg k f b1
      rw [hag i a2, r.old k (.inl k3)]
      exact rep.sep i k e e0 a1 k1 ho (Ent.own_live k2) hik
    · subst a1
      have := (rep.ent k f b1).lt hl
      rw [hag k b2]
      rcases (r.ent m e a2 (Ent.own_live ho)).2 with h4 | ⟨i1, hc, h4⟩
      · omega
      · rw [h4]; exact hother k f b1 hl b3 i1 _ hc
    · subst a1 b1
      exact r.sep m m2 e f a2 b2 ho hl (by omega)
    · obtain ⟨e0, _, _, _, k6⟩ := hchg k f b1
      rw [(k6 hl).2] at a2; simp at a2
    · obtain ⟨e0, k1, k2, k3, _⟩ := hchg i e a1
      rw [hag k b2, r.old i (.inl k3)]
      exact rep.sep i k e0 f k1 b1 k2 hl hik
    · obtain ⟨e0, _, _, _, k6⟩ := hchg i e a1
      rw [(k6 (Ent.own_live ho)).2] at b2; simp at b2
    · rw [a1] at b1
      cases b1
      exact absurd rfl hik
  · rcases cases' i e he (Ent.own_live ho) with ⟨a1, a2, a3⟩ | ⟨m, a1, a2⟩ | a1
    · rw [hag i a2]
      exact ext.own i e a1 ho
    · subst a1
      rcases (r.ent m e a2 (Ent.own_live ho)).2 with h4 | ⟨i1, hc, h4⟩
      · exact .inr (Nat.le_trans ext.size h4)
      · obtain ⟨e0, k1, k2, k3, _⟩ := hchg i1 _ hc
        rw [h4]
        exact ext.own i1 e0 k1 k2
    · obtain ⟨e0, k1, k2, k3, _⟩ := hchg i e a1
      rw [r.old i (.inl k3)]
      exact ext.own i e0 k1 k2
  · rw [r.block b (Nat.lt_of_lt_of_le hb ext.size) fun i1 e1 hc => ?_]
    · exact ext.block b hb hn
    · obtain ⟨e0, k1, k2, k3, _⟩ := hchg i1 e1 hc
      rcases ext.own i1 e0 k1 k2 with ⟨j', e', h1, h2, h3⟩ | h1
      · rw [← h3]; exact hn j' e' h1 h2
      · omega
/-- All orders of a region: its first m operations hand on values, whatever the order; behind them all X is met. -/
theorem region_anyD {r : Option Nat} {ops : Array Oper} {s : Sto} {w0 : World} {a0 : Act} {vs : List V} {TC : List Nat} {ch : List (Nat × Nat)} {N : List (Nat × Ent)} {Cs : List (Nat × Nat × Ent)} {m : Nat} {X : Exit → Act → World → Prop} (hok : opsOk ops.toList ops.toList 0 = true) (hm : m ≤ ops.size) (hvs : vs.length = m) (hAll : AllOk ops TC ch s N Cs)
    (hgive : ∀ (j : Nat) o v, j < m → ops[j]? = some o → vs[j]? = some v → ∃ Nj Mj es Cj Cm c, DFact P ops TC ch s ρ (fun ρL => actT ρL a0 (ops.toList.take j) (vs.take j)) j o v N Cs Nj Mj es Cj Cm c)
    (hend : ∀ (g : Nat) (listed : Array Bool) (ρL : Rho) (a : Act) (w : World), InvD P ops ρ s w0 a0 vs N Cs m listed ρL a w → (∀ j, j < m → listed.getD j false = true) → g = ops.size - m → wpAnyIn (Fr r) 0 P .any ops X g listed a w)
    (hlast : ∀ (listed : Array Bool), listed.size = ops.size → (∀ j, m ≤ j → listed.getD j false = false) → (∀ (j : Nat) o, ops[j]? = some o → listed.getD j false = true → ∀ i ∈ preds o, listed.getD i false = true) → ∀ j, m ≤ j → j ∈ Region.ready .any ops listed → ∀ i, i < m → listed.getD i false = true) :
    ∀ (d : Nat) (listed : Array Bool) (ρL : Rho) (a : Act) (w : World), InvD P ops ρ s w0 a0 vs N Cs m listed ρL a w → ((List.range m).filter fun j => !listed.getD j false).length = d → wpAnyIn (Fr r) 0 P .any ops X (d + (ops.size - m)) listed a w := by
  intro d
  induction d with
  | zero =>
    intro listed ρL a w inv hd
    rw [Nat.zero_add]
    refine hend _ listed ρL a w inv (fun j hj => ?_) rfl
    cases hl : listed.getD j false with
    | true => rfl
    | false =>
      have : j ∈ (List.range m).filter fun j => !listed.getD j false := List.mem_filter.2 ⟨List.mem_range.2 hj, by simp [hl]⟩
      rw [List.length_eq_zero_iff.1 hd] at this
      cases this
  | succ d ih =>
    intro listed ρL a w inv hd
    rw [show d + 1 + (ops.size - m) = (d + (ops.size - m)) + 1 by omega]
    have hun : ∃ i, i < m ∧ listed.getD i false = false := by
      have hne : ((List.range m).filter fun j => !listed.getD j false) ≠ [] := fun h => by rw [h] at hd; cases hd
      obtain ⟨i, hi⟩ := List.exists_mem_of_ne_nil _ hne
      obtain ⟨h1, h2⟩ := List.mem_filter.1 hi
      exact ⟨i, List.mem_range.1 h1, by simpa using h2⟩
    obtain ⟨i0, hi0, hi0f⟩ := hun
    have rdy : ∀ j, j ∈ Region.ready .any ops listed → j < m ∧ listed.getD j false = false ∧ ∃ o, ops[j]? = some o ∧ ∀ i ∈ preds o, listed.getD i false = true := by
      intro j hj
      obtain ⟨h1, o, h2, h3⟩ := mem_ready.1 hj
      have hlt : j < m := by
        rcases Nat.lt_or_ge j m with h | h
        · exact h
        · have := hlast listed inv.size inv.head inv.closed j h hj i0 hi0
          rw [hi0f] at this; cases this
      have hjs : j < listed.size := by rw [inv.size]; omega
      refine ⟨hlt, by simpa [hjs] using h1, o, h2, fun i hi => ?_⟩
      obtain ⟨e, he, hb, rfl⟩ := mem_preds.1 hi
      exact h3 e he hb
    refine ⟨fun hnil => ?_, fun j hj => ?_⟩
    · -- the least that is not done is ready
      exfalso
      have : ∀ i, i < m → listed.getD i false = false → False := by
        intro i
        induction i using Nat.strongRecOn with
        | _ i ih2 =>
          intro hi hf
          have hio : i < ops.size := by omega
          have hok1 := (opsOk_at (l := ops.toList) hok (j := i) (o := ops[i]) (by simp [hio])).1
          simp only [opOk, Bool.and_eq_true, Nat.zero_add] at hok1
          have hpre : ∀ x ∈ preds ops[i], x < i := fun x hx => by
            have := List.all_eq_true.1 hok1.1.1 x hx
            simpa [Nat.blt_eq] using this
          have hr : i ∈ Region.ready .any ops listed := by
            refine mem_ready.2 ⟨by simpa [inv.size, hio] using hf, ops[i], by simp [hio], fun e he hb => ?_⟩
            have hx := mem_preds.2 ⟨e, he, hb, rfl⟩
            cases hl : listed.getD e.on false with
            | true => rfl
            | false => exact (ih2 e.on (hpre _ hx) (by have := hpre _ hx; omega) hl).elim
          rw [hnil] at hr
          cases hr
      exact this i0 hi0 hi0f
    · obtain ⟨hjm, hjf, o, ho, hpre⟩ := rdy j hj
      obtain ⟨v, hv⟩ : ∃ v, vs[j]? = some v := ⟨vs[j]'(by omega), by simp [hvs, hjm]⟩
      have hol : ops.toList[j]? = some o := by rw [Array.getElem?_toList]; exact ho
      obtain ⟨hok1, hok2⟩ := opsOk_at (l := ops.toList) hok hol
      simp only [opOk, Bool.and_eq_true, Nat.zero_add] at hok1
      obtain ⟨Nj, Mj, es, Cj, Cm, c, fact⟩ := hgive j o v hjm ho hv
      have hjs : j < listed.size := by rw [inv.size]; exact (Array.getElem?_eq_some_iff.1 ho).1
      obtain ⟨tz, _⟩ := actT_size (ρ := ρL) (ops.toList.take j) (vs.take j) a0
      have hokj : opsOk ops.toList (ops.toList.take j) 0 = true := by
        have : ∀ (l : List Oper) (k j : Nat), opsOk ops.toList l k = true → opsOk ops.toList (l.take j) k = true := by
          intro l
          induction l with
          | nil => intro k j h; simpa using h
          | cons x xs ihx =>
            intro k j h
            cases j with
            | zero => rfl
            | succ j =>
              simp only [opsOk, Bool.and_eq_true, List.take_succ_cons] at h ⊢
              exact ⟨⟨h.1.1, List.all_eq_true.2 fun p hp => List.all_eq_true.1 h.1.2 p (List.mem_of_mem_take hp)⟩, ihx _ _ h.2⟩
        exact this _ _ _ hok
      have hlenj : (vs.take j).length = (ops.toList.take j).length := by simp [hvs]; omega
      have hlook : ∀ t ∈ o.looksAt ops, a.tmps[t]? = (actT ρL a0 (ops.toList.take j) (vs.take j)).tmps[t]? := by
        intro t ht
        have hw := List.all_eq_true.1 hok1.1.2 t (by simpa using ht)
        have hwr : ∀ (i : Nat) p, ops[i]? = some p → p.dst = some t → i ∈ preds o ∨ j ∈ preds p := by
          intro i p hp hpd
          have hpl : ops.toList[i]? = some p := by rw [Array.getElem?_toList]; exact hp
          have := List.all_eq_true.1 hw (p, i) (List.mem_zipIdx_iff_getElem?.2 hpl)
          simpa [hpd] using this
        obtain ⟨c1, c2⟩ := actT_at (ρ := ρL) (ops.toList.take j) (vs.take j) a0 0 ops.toList hokj hlenj t
        by_cases hex : ∃ (i : Nat) (p : Oper), ops[i]? = some p ∧ p.dst = some t
        · obtain ⟨i, p, hp, hpd⟩ := hex
          rcases hwr i p hp hpd with hip | hjp
          rotate_left
          · have hpl : ops.toList[i]? = some p := by rw [Array.getElem?_toList]; exact hp
            have hji : j < i := by
              have hokp := (opsOk_at (l := ops.toList) hok hpl).1
              simp only [opOk, Bool.and_eq_true, Nat.zero_add] at hokp
              have := List.all_eq_true.1 hokp.1.1 j hjp
              simpa [Nat.blt_eq] using this
            have huniq : ∀ (i' : Nat) p', ops[i']? = some p' → p'.dst = some t → i' = i := by
              intro i' p' hp' hpd'
              have hpl' : ops.toList[i']? = some p' := by rw [Array.getElem?_toList]; exact hp'
              rcases Nat.lt_trichotomy i' i with h | h | h
              · exact absurd hpd ((opsOk_at (l := ops.toList) hok hpl').2 i p h hpl t hpd')
              · exact h
              · exact absurd hpd' ((opsOk_at (l := ops.toList) hok hpl).2 i' p' h hpl' t hpd)
            rw [inv.old t fun i' p' hp' hl' hpd' => by
              have := huniq i' p' hp' hpd'
              subst this
              have := inv.closed i' p' hp' hl' j (by
                rw [hp] at hp'
                rw [← Option.some.inj hp']; exact hjp)
              rw [hjf] at this; cases this]
            refine (c2 fun i' p' hp' hpd' => ?_).symm
            rw [List.getElem?_take] at hp'
            split at hp'
            · rename_i hlt
              have := huniq i' p' (by rw [← Array.getElem?_toList]; exact hp') hpd'
              omega
            · cases hp'
          have hij : i < j := by
            have := List.all_eq_true.1 hok1.1.1 i hip
            simpa [Nat.blt_eq] using this
          obtain ⟨u, hu⟩ : ∃ u, vs[i]? = some u := ⟨vs[i]'(by omega), by simp⟩
          by_cases htl : t < a0.tmps.size
          · rw [inv.val i p u t hp hu (hpre i hip) hpd htl]
            exact (c1 i p u (by rw [List.getElem?_take, if_pos hij, Array.getElem?_toList]; exact hp) (by rw [List.getElem?_take, if_pos hij]; exact hu) hpd htl).symm
          · have hle := Nat.le_of_not_lt htl
            have n1 : a.tmps[t]? = none := Array.getElem?_eq_none (by rw [inv.tsize]; exact hle)
            have n2 : (actT ρL a0 (ops.toList.take j) (vs.take j)).tmps[t]? = none := Array.getElem?_eq_none (by rw [tz]; exact hle)
            rw [n1, n2]
        · have hno : ∀ (i : Nat) p, ops[i]? = some p → p.dst ≠ some t := fun i p hp hpd => hex ⟨i, p, hp, hpd⟩
          rw [inv.old t fun i p hp _ => hno i p hp]
          refine (c2 fun i p hp => ?_).symm
          rw [List.getElem?_take] at hp
          split at hp
          · exact hno i p (by rw [← Array.getElem?_toList]; exact hp)
          · cases hp
      have hLc : Closed ops (fun q => listed.getD q false) := inv.closed
      have hpre2 : ∀ p ∈ preds o, (fun q => listed.getD q false) p = true := hpre
      have hview := view_less hAll ho fact.all fact.allC fact.hiC hLc hpre2 hjf
      refine fact.gives r ρL inv.agree a w (by rw [inv.tsize, tz]) hlook (inv.rep.less hview) _ X fun ρ' w' r => ?_
      have hput : (a.put o.dst (v.abs ρ')).tmps.size = a.tmps.size := by cases o.dst <;> simp [Act.put]
      obtain ⟨hag, hrep2, hext2⟩ := act_step (w0 := w0) (L' := fun q => (listed.setIfInBounds j true).getD q false) hAll fact.all fact.lo fact.hi fact.allC fact.loC fact.hiC hLc hjf inv.agree inv.rep inv.ext (viewAt_length _ _ _ _ _ _) hview r (by simp [hjs]) (fun q hq => getD_set_ne false (fun e => hq e.symm))
      have hvok : ∀ (i : Nat) p u, ops[i]? = some p → vs[i]? = some u → listed.getD i false = true → u.abs ρ' = u.abs ρL := by
        intro i p u hp hu hl
        have him : i < m := by rw [← hvs]; exact (List.getElem?_eq_some_iff.1 hu).1
        obtain ⟨Ni, Mi, ei, Ci, Cmi, ci, facti⟩ := hgive i p u him hp hu
        refine V.abs_ok hag u (V.ok_mono (fun x hx => ?_) u facti.vok)
        rw [facti.all]
        exact okAt_mono (fun q hq => by
          rw [Bool.or_eq_true] at hq
          rcases hq with hq | hq
          · rw [Nat.eq_of_beq_eq_true hq]; exact hl
          · exact (hAll.closed hLc i hl ⟨p, hp⟩).2 q hq) x hx
      refine ih _ ρ' _ _ ⟨by simp [inv.size], fun i hi => ?_, fun i p hp hl x hx => ?_, by rw [hput, inv.tsize], by cases o.dst <;> simp [Act.put, inv.defers], fun i hi => by rw [hag i (okAt_of_lt hi), inv.agree i hi], fun i p u t hp hu hl hd ht => ?_, fun t hn => ?_, hrep2, hext2⟩ ?_
      · rw [getD_set_ne false (by omega)]; exact inv.head i hi
      · by_cases hij : j = i
        · subst hij
          obtain rfl : p = o := Option.some.inj (hp.symm.trans ho)
          exact getD_set_true (hpre x hx)
        · rw [getD_set_ne false hij] at hl
          exact getD_set_true (inv.closed i p hp hl x hx)
      · by_cases hij : j = i
        · subst hij
          obtain rfl : p = o := Option.some.inj (hp.symm.trans ho)
          obtain rfl : u = v := Option.some.inj (hu.symm.trans hv)
          simp [Act.put, hd, inv.tsize, ht]
        · rw [getD_set_ne false hij] at hl
          have hne : o.dst ≠ some t := by
            intro hod
            have hpl : ops.toList[i]? = some p := by rw [Array.getElem?_toList]; exact hp
            rcases Nat.lt_or_gt_of_ne hij with hlt | hgt
            · exact hok2 i p hlt hpl t hod hd
            · exact (opsOk_at (l := ops.toList) hok hpl).2 j o hgt hol t hd hod
          have := inv.val i p u t hp hu hl hd ht
          rw [← hvok i p u hp hu hl] at this
          cases hod : o.dst with
          | none => simpa [Act.put] using this
          | some x => 
            have hxt : x ≠ t := fun e => hne (by rw [hod, e])
            simpa [Act.put, Array.getElem?_setIfInBounds_ne hxt] using this
      · have hne : o.dst ≠ some t := hn j o ho (by simp [hjs])
        have hold := inv.old t fun i p hp hl => hn i p hp (by
          by_cases hij : j = i
          · subst hij; simp [hjs]
          · rw [getD_set_ne false hij]; exact hl)
        cases hod : o.dst with
        | none => simpa [Act.put] using hold
        | some x => 
          have hxt : x ≠ t := fun e => hne (by rw [hod, e])
          simpa [Act.put, Array.getElem?_setIfInBounds_ne hxt] using hold
      · have hmem : j ∈ (List.range m).filter fun j => !listed.getD j false := List.mem_filter.2 ⟨List.mem_range.2 hjm, by simp [hjf]⟩
        have heq : ((List.range m).filter fun x => !(listed.setIfInBounds j true).getD x false) = ((List.range m).filter fun x => !listed.getD x false).erase j := by
          rw [List.Nodup.erase_eq_filter (List.Pairwise.filter _ List.nodup_range), List.filter_filter]
          refine List.filter_congr fun x hx => ?_
          by_cases hxj : j = x
          · subst hxj; simp [hjs]
          · have hne : (x != j) = true := by simpa using fun e : x = j => hxj e.symm
            rw [getD_set_ne false hxj, hne, Bool.true_and]
        rw [heq, List.length_erase_of_mem hmem, hd]
        rfl
theorem inv_tmpsD {ops : Array Oper} {s : Sto} {w0 w : World} {a0 a : Act} {vs : List V} {N : List (Nat × Ent)} {Cs : List (Nat × Nat × Ent)} {m : Nat} {ρL : Rho} {listed : Array Bool} (hok : opsOk ops.toList ops.toList 0 = true) (hm : m ≤ ops.size) (hvs : vs.length = m) (inv : InvD P ops ρ s w0 a0 vs N Cs m listed ρL a w) (hall : ∀ j, j < m → listed.getD j false = true) (t : Nat) :
    a.tmps[t]? = (actT ρL a0 (ops.toList.take m) vs).tmps[t]? := by
  have hokj : opsOk ops.toList (ops.toList.take m) 0 = true := by
    have : ∀ (l : List Oper) (k j : Nat), opsOk ops.toList l k = true → opsOk ops.toList (l.take j) k = true := by
      intro l
      induction l with
      | nil => intro k j h; simpa using h
      | cons x xs ihx =>
        intro k j h
        cases j with
        | zero => rfl
        | succ j =>
          simp only [opsOk, Bool.and_eq_true, List.take_succ_cons] at h ⊢
          exact ⟨⟨h.1.1, List.all_eq_true.2 fun p hp => List.all_eq_true.1 h.1.2 p (List.mem_of_mem_take hp)⟩, ihx _ _ h.2⟩
    exact this _ _ _ hok
  have hlen : vs.length = (ops.toList.take m).length := by simp [hvs]; omega
  obtain ⟨c1, c2⟩ := actT_at (ρ := ρL) (ops.toList.take m) vs a0 0 ops.toList hokj hlen t
  obtain ⟨tz, _⟩ := actT_size (ρ := ρL) (ops.toList.take m) vs a0
  have hin : ∀ (i : Nat) p, (ops.toList.take m)[i]? = some p → i < m ∧ ops[i]? = some p := by
    intro i p hp
    rw [List.getElem?_take] at hp
    split at hp
    · rename_i hi; exact ⟨hi, by rw [← Array.getElem?_toList]; exact hp⟩
    · cases hp
  by_cases hex : ∃ (i : Nat) (p : Oper), (ops.toList.take m)[i]? = some p ∧ p.dst = some t
  · obtain ⟨i, p, hp, hpd⟩ := hex
    obtain ⟨him, hpo⟩ := hin i p hp
    obtain ⟨u, hu⟩ : ∃ u, vs[i]? = some u := ⟨vs[i]'(by omega), by simp⟩
    by_cases htl : t < a0.tmps.size
    · rw [inv.val i p u t hpo hu (hall i him) hpd htl, c1 i p u hp hu hpd htl]
    · have hle := Nat.le_of_not_lt htl
      have n1 : a.tmps[t]? = none := Array.getElem?_eq_none (by rw [inv.tsize]; exact hle)
      have n2 : (actT ρL a0 (ops.toList.take m) vs).tmps[t]? = none := Array.getElem?_eq_none (by rw [tz]; exact hle)
      rw [n1, n2]
  · rw [c2 fun i p hp hpd => hex ⟨i, p, hp, hpd⟩]
    refine inv.old t fun i p hp hl hpd => hex ⟨i, p, ?_, hpd⟩
    have him : i < m := by
      rcases Nat.lt_or_ge i m with h | h
      · exact h
      · rw [inv.head i h] at hl; cases hl
    rw [List.getElem?_take, if_pos him, Array.getElem?_toList]
    exact hp
end
def finS (s : Sto) (N : List (Nat × Ent)) (Cs : List (Nat × Nat × Ent)) : Sto := setC (fun _ => true) Cs (s ++ N.map (·.2))
def ckC (TC : List Nat) (ch : List (Nat × Nat)) (Cs : List (Nat × Nat × Ent)) : Bool :=
  Cs.all (fun x => ch.any fun p => Nat.beq p.1 x.1 && Nat.beq p.2 x.2.1) && Cs.all fun x => Cs.all fun y => !(Nat.blt x.1 y.1 && Nat.beq x.2.1 y.2.1) || tcAt TC y.1 x.1
/-- Run once to see what is changed by whom; if anything is, once more with that hidden from those who do not wait for it. -/
def dq2 {R : Type} (no : R) (P : Program) (D : Ch R) (n : Nat) (ops : List Oper) (TC : List Nat) (s : Sto) (K : List (Nat × V) → Sto → R) (l : List Oper) (e0 : List (Nat × V)) : R :=
  dqrun no P D n ops TC [] s (fun e N Cs => match Cs with
    | [] => match N with
      | [] => K e s
      | p :: N => flA (s ++ (p :: N).map (·.2)) fun s => K e s
    | c :: cs => fl ((c :: cs).map fun x => (x.1, x.2.1)) fun ch => dqrun no P D n ops TC ch s (fun e N Cs => match ckC TC ch Cs with
      | true => flA (finS s N Cs) fun s => K e s
      | false => no) l 0 e0 [] []) l 0 e0 [] []
/-- Does an operation wait for all that stand ahead of it? -/
def goodT (TC : List Nat) (j : Nat) : Bool := subN (Nat.sub (oneN j) 1) (TC.getD j 0)
/-- From where on each operation waits for all that stand ahead of it. -/
def cutT (TC : List Nat) : Nat → Nat
  | 0 => 0
  | j + 1 => match goodT TC j with
    | true => cutT TC j
    | false => j + 1
theorem cutT_le (TC : List Nat) : ∀ n, cutT TC n ≤ n
  | 0 => Nat.le_refl _
  | n + 1 => by
    simp only [cutT]
    split
    · exact Nat.le_succ_of_le (cutT_le TC n)
    · exact Nat.le_refl _
theorem cutT_good {TC : List Nat} : ∀ {n j : Nat}, cutT TC n ≤ j → j < n → goodT TC j = true := by
  intro n
  induction n with
  | zero => intro j _ hj; omega
  | succ n ih =>
    intro j h1 h2
    simp only [cutT] at h1
    split at h1
    · rename_i hg
      rcases Nat.lt_or_ge j n with h | h
      · exact ih h1 h
      · obtain rfl : j = n := by omega
        exact hg
    · omega
theorem goodT_bit {TC : List Nat} {j i : Nat} (h : goodT TC j = true) (hi : i < j) : tcAt TC j i = true := by
  have hb : bitN (Nat.sub (oneN j) 1) i = true := by
    rw [bitN_eq]
    have : Nat.sub (oneN j) 1 = 2 ^ j - 1 := by rw [← Nat.one_shiftLeft]; rfl
    rw [this, Nat.testBit_two_pow_sub_one]
    simpa using hi
  exact subN_bit h hb
/-- A region that draws its order: what makes new blocks, changes one or nothing in the text's order, then the last operation, if all others are waited for. -/
def drwDT {R : Type} (no : R) (P : Program) (C : Ch R) (D : Ch R) (ops : List Oper) (K : Ex → St → R) (n : Nat) (e : List (Nat × V)) (s : Sto) : R :=
  match opsF ops with
  | false => no
  | true => flA (tcGo ops []) fun TC => match tcCk ops TC with
    | false => no
    | true => dq2 no P D n ops TC s (fun e s => evOpsT no P C ops K n (ops.drop (cutT TC ops.length)) e s) (ops.take (cutT TC ops.length)) e
/-- The last operations, each of which waits for all ahead of it. -/
theorem tail_any {P : Program} {r : Option Nat} {ops : Array Oper} {X : Exit → Act → World → Prop} {TC : List Nat} {m : Nat} (htc : tcCk ops.toList TC = true) (hgood : ∀ j, m ≤ j → j < ops.size → goodT TC j = true) : ∀ (g j : Nat) (listed : Array Bool) (b : Act) (w : World), g = ops.size - j → m ≤ j → j ≤ ops.size → listed.size = ops.size →
    (∀ q, q < j → listed.getD q false = true) → (∀ q, j ≤ q → listed.getD q false = false) → wpListIn (Fr r) 0 P ops X (ops.toList.drop j) b w → wpAnyIn (Fr r) 0 P .any ops X g listed b w := by
  intro g
  induction g with
  | zero =>
    intro j listed b w hg hm hj hls hlo hhi h
    obtain rfl : j = ops.size := by omega
    rw [List.drop_eq_nil_of_le (by simp)] at h
    exact ⟨ready_nil hls fun q hq => hlo q hq, h⟩
  | succ g ih =>
    intro j listed b w hg hm hj hls hlo hhi h
    have hlt : j < ops.size := by omega
    obtain ⟨o, ho⟩ : ∃ o, ops[j]? = some o := ⟨ops[j], by simp [hlt]⟩
    have hdrop : ops.toList.drop j = o :: ops.toList.drop (j + 1) := by
      rw [List.drop_eq_getElem_cons (by simpa using hlt)]
      have : ops.toList[j]? = some o := by rw [Array.getElem?_toList]; exact ho
      rw [List.getElem?_eq_getElem (by simpa using hlt)] at this
      rw [Option.some.inj this]
    have hpre : ∀ (q : Nat) oq, ops[q]? = some oq → ∀ i ∈ preds oq, i < q := by
      intro q oq hq i hi
      have h1 := List.all_eq_true.1 htc (oq, q) (List.mem_zipIdx_iff_getElem?.2 (by rw [Array.getElem?_toList]; exact hq))
      simp only [Bool.and_eq_true] at h1
      have := List.all_eq_true.1 h1.1.2 i hi
      simpa [Nat.blt_eq] using this
    have hclosed : Closed ops fun q => listed.getD q false := by
      intro q oq hq hl i hi
      have hqj : q < j := by
        rcases Nat.lt_or_ge q j with h | h
        · exact h
        · have := hhi q h; simp only at hl; rw [this] at hl; cases hl
      exact hlo i (by have := hpre q oq hq i hi; omega)
    have only : ∀ i ∈ Region.ready .any ops listed, i = j := by
      intro i hi
      obtain ⟨h1, oi, h2, h3⟩ := mem_ready.1 hi
      have hil : i < ops.size := (Array.getElem?_eq_some_iff.1 h2).1
      have hij : j ≤ i := by
        rcases Nat.lt_or_ge i j with h | h
        · have := hlo i h
          have hls' : i < listed.size := by omega
          simp [hls'] at h1 this
          rw [h1] at this; cases this
        · exact h
      rcases Nat.lt_or_ge j i with h | h
      · have hw := tcCk_waits htc i oi h2 _ hclosed (fun p hp => by
          obtain ⟨e, he, hb, rfl⟩ := mem_preds.1 hp
          exact h3 e he hb) j (goodT_bit (hgood i (by omega) hil) h)
        have := hhi j (Nat.le_refl _)
        rw [this] at hw; cases hw
      · omega
    have hjr : j ∈ Region.ready .any ops listed := by
      refine mem_ready.2 ⟨?_, o, ho, fun e he hb => hlo e.on (hpre j o ho e.on (mem_preds.2 ⟨e, he, hb, rfl⟩))⟩
      have := hhi j (Nat.le_refl _)
      have hls' : j < listed.size := by omega
      simpa [hls'] using this
    refine ⟨fun hnil => ?_, fun i hi => ?_⟩
    · rw [hnil] at hjr; cases hjr
    · obtain rfl := only i hi
      refine wpOpIn_mono (K := wpListIn (Fr r) 0 P ops X (ops.toList.drop (i + 1))) (fun b w hx => ih (i + 1) _ b w (by omega) (by omega) (by omega) (by simp [hls]) (fun q hq => ?_) (fun q hq => ?_) hx) ?_
      · by_cases hqi : i = q
        · subst hqi
          have hls' : i < listed.size := by omega
          simp [hls']
        · rw [getD_set_ne false hqi]; exact hlo q (by omega)
      · rw [getD_set_ne false (by omega)]; exact hhi q (by omega)
      · rw [hdrop] at h
        unfold wpOpIn
        simp only [ho]
        unfold wpListIn at h
        exact h
section
variable {P : Program} {ρ : Rho} {st : St}
variable {R : Type} {no : R} {T : R → Prop} (hno : ¬ T no)
include hno
theorem dq2_sound {Q : Ch R} {D : Dh} (hQ : PickD T Q D) (hD : DOk P D) {ops : Array Oper} {TC : List Nat} (htc : tcCk ops.toList TC = true) {n : Nat} {s : Sto} (hsb : sbd s) {K : List (Nat × V) → Sto → R} {l : List Oper} {e0 : List (Nat × V)} {A : Rho → Act} (hl : l.length ≤ ops.size)
    (hops : ∀ (j : Nat) o, l[j]? = some o → ops[j]? = some o) (hsel : ∀ o ∈ l, ∀ cs x, o.op ≠ .select cs x) (hS : DSim Δ ρ n e0 s 0 A) (hq : T (dq2 no P Q n ops.toList TC s K l e0)) :
    ∃ ch vs e' N Cs, T (K e' (finS s N Cs)) ∧ vs.length = l.length ∧ AllOk ops TC ch s N Cs ∧ (∀ p ∈ N, p.1 < l.length) ∧ (∀ x ∈ Cs, x.1 < l.length) ∧ DSim Δ ρ n e' s N.length (fun ρL => actT ρL (A ρL) l vs) ∧
      ∀ (j : Nat) o v, l[j]? = some o → vs[j]? = some v → ∃ Nj Mj es Cj Cm c, DFact P ops TC ch s ρ (fun ρL => actT ρL (A ρL) (l.take j) (vs.take j)) j o v N Cs Nj Mj es Cj Cm c := by
  have hops0 : ∀ (j : Nat) o, l[j]? = some o → ops[0 + j]? = some o := fun j o h => by rw [Nat.zero_add]; exact hops j o h
  have no0 : NOk ops TC s.length 0 [] := fun p hp => by cases hp
  have co0 : COk ops TC s.length 0 [] [] := fun p hp => by cases hp
  have fin : ∀ {ch : List (Nat × Nat)} {vs : List V} {e' : List (Nat × V)} {N : List (Nat × Ent)} {Cs : List (Nat × Nat × Ent)}, T (K e' (finS s N Cs)) → vs.length = l.length → NOk ops TC s.length (0 + l.length) N → COk ops TC s.length (0 + l.length) N Cs → ckC TC ch Cs = true → DSim Δ ρ n e' s N.length (fun ρL => actT ρL (A ρL) l vs) →
      (∀ (j : Nat) o v, l[j]? = some o → vs[j]? = some v → ∃ Nj Mj es Cj Cm c, DFact P ops TC ch s ρ (fun ρL => actT ρL (A ρL) (l.take j) (vs.take j)) (0 + j) o v N Cs Nj Mj es Cj Cm c) →
      ∃ ch vs e' N Cs, T (K e' (finS s N Cs)) ∧ vs.length = l.length ∧ AllOk ops TC ch s N Cs ∧ (∀ p ∈ N, p.1 < l.length) ∧ (∀ x ∈ Cs, x.1 < l.length) ∧ DSim Δ ρ n e' s N.length (fun ρL => actT ρL (A ρL) l vs) ∧
        ∀ (j : Nat) o v, l[j]? = some o → vs[j]? = some v → ∃ Nj Mj es Cj Cm c, DFact P ops TC ch s ρ (fun ρL => actT ρL (A ρL) (l.take j) (vs.take j)) j o v N Cs Nj Mj es Cj Cm c := by
    intro ch vs e' N Cs h1 h2 h3 h4 h5 h6 h7
    simp only [ckC, Bool.and_eq_true] at h5
    refine ⟨ch, vs, e', N, Cs, h1, h2, ⟨hsb, fun p hp => ?_, fun x hx => ?_, htc, fun x hx => ?_, fun x hx y hy hxy he => ?_⟩, fun p hp => ?_, fun x hx => ?_, h6, fun j o v hj hv => ?_⟩
    · obtain ⟨k1, k2⟩ := h3 p hp; exact ⟨by omega, k2⟩
    · obtain ⟨k1, k2⟩ := h4 x hx; exact ⟨by omega, k2⟩
    · obtain ⟨q, k1, k2⟩ := List.any_eq_true.1 (List.all_eq_true.1 h5.1 x hx)
      simp only [Bool.and_eq_true] at k2
      rw [← Nat.eq_of_beq_eq_true k2.1, ← Nat.eq_of_beq_eq_true k2.2]
      exact k1
    · have := List.all_eq_true.1 (List.all_eq_true.1 h5.2 x hx) y hy
      have hb1 : Nat.blt x.1 y.1 = true := by rw [Nat.blt_eq]; exact hxy
      rw [hb1, he, Nat.beq_refl] at this
      simpa using this
    · have := (h3 p hp).1; omega
    · have := (h4 x hx).1; omega
    · have := h7 j o v hj hv
      rwa [Nat.zero_add] at this
  unfold dq2 at hq
  obtain ⟨vs, e', N', M, Cs', C, i0, i1, i2, j2, i3, j3, i4, j4, i5, i6⟩ := dqrun_sound hno hQ hD hsb l 0 e0 [] [] A hops0 hsel hS no0 co0 hq
  cases Cs' with
  | nil =>
    cases N' with
    | nil => exact fin (N := []) (Cs := []) (by rw [show finS s [] [] = s by simp [finS, setC]]; exact i0) i1 i4 j4 rfl i5 i6
    | cons p N' =>
      simp only [flA_eq] at i0
      exact fin (Cs := []) i0 i1 i4 j4 rfl i5 i6
  | cons c cs =>
    simp only [fl_eq] at i0
    obtain ⟨vs, e', N', M, Cs', C, i0, i1, i2, j2, i3, j3, i4, j4, i5, i6⟩ := dqrun_sound hno hQ hD hsb l 0 e0 [] [] A hops0 hsel hS no0 co0 i0
    split at i0
    · rename_i hck
      rw [flA_eq] at i0
      exact fin i0 i1 i4 j4 hck i5 i6
    · exact (hno i0).elim
omit hno in
theorem setC_all {L : Nat → Bool} : ∀ {Cs : List (Nat × Nat × Ent)} {S : Sto}, (∀ x ∈ Cs, L x.1 = true) → setC L Cs S = setC (fun _ => true) Cs S := by
  intro Cs
  induction Cs with
  | nil => intro S _; rfl
  | cons c cs ih =>
    intro S h
    rw [setC, setC, h c (by simp), ih fun x hx => h x (by simp [hx])]
omit hno in
theorem stoAt_fin {s : Sto} {N : List (Nat × Ent)} {Cs : List (Nat × Nat × Ent)} {L : Nat → Bool} (hN : ∀ p ∈ N, L p.1 = true) (hC : ∀ x ∈ Cs, L x.1 = true) : stoAt s N Cs L = finS s N Cs := by
  rw [stoAt, finS, setC_all hC, maskN_all hN]
theorem drwD_sound {C Q : Ch R} {D : Dh} (hC : ∀ f args s K, T (C f args s K) → TgOk P f args s fun r s => T (K r s)) (hQ : PickD T Q D) (hD : DOk P D) (hm : P.follows .mixedOrders = true) {id : Nat} {ops : Array Oper} {K : Ex → St → R}
    (hk : T (drwDT no P C Q ops.toList K st.n st.t st.s)) : CodeOk P (.region id ops true) st fun e s => T (K e s) := by
  refine ⟨fun r B Δ ρ a w0 h hf => wpIn_region_any hm ?_⟩
  have hw : Sim Δ ρ st a { w0 with drawn := w0.drawn + 1 } := ⟨h.defers, h.size, h.tmps, h.bd, ⟨h.rep.ent, h.rep.sep⟩, h.sb⟩
  have he0 : Ext st.s ρ w0 st.s ρ { w0 with drawn := w0.drawn + 1 } := (Ext.refl st.s ρ w0).drawn _
  generalize hw1 : ({ w0 with drawn := w0.drawn + 1 } : World) = w at hw he0
  have hsz : ops.toList.length = ops.size := Array.length_toList
  unfold drwDT at hk
  split at hk
  · exact (hno hk).elim
  rename_i hok
  have hok := opsF_ok hok
  have hsel : ∀ o ∈ ops.toList, ∀ cs x, o.op ≠ .select cs x := by
    intro o ho cs x hx
    obtain ⟨i, hi⟩ := List.getElem?_of_mem ho
    have := (opsOk_at (l := ops.toList) hok hi).1
    simp only [opOk, Bool.and_eq_true] at this
    rw [hx] at this
    cases this.2
  have gl : ∀ (N : List (Nat × Ent)) (Cs : List (Nat × Nat × Ent)) (i : Nat) (e : Ent), (stoAt st.s N Cs fun q => (Array.replicate ops.size false).getD q false)[i]? = some e → e = .no ∨ st.s[i]? = some e := by
    intro N Cs i e he
    rcases setC_cases he with he | ⟨x, _, hx, _⟩
    · rcases Nat.lt_or_ge i st.s.length with hi | hi
      · rw [List.getElem?_append_left hi] at he; exact .inr he
      · rw [List.getElem?_append_right hi] at he
        obtain ⟨p, hp, ⟨h1, rfl⟩ | ⟨h1, rfl⟩⟩ := maskN_get he
        · rw [getD_replicate_false] at h1; cases h1
        · exact .inl rfl
    · rw [getD_replicate_false] at hx; cases hx
  have inv0 : ∀ (vs : List V) (N : List (Nat × Ent)) (Cs : List (Nat × Nat × Ent)) (m : Nat), InvD P ops ρ st.s w a vs N Cs m (Array.replicate ops.size false) ρ a w := fun vs N Cs m =>
    ⟨by simp, fun j _ => getD_replicate_false _ _, fun j o _ hl => (by rw [getD_replicate_false] at hl; cases hl), rfl, rfl, fun _ _ => rfl, fun j o v t _ _ hl => (by rw [getD_replicate_false] at hl; cases hl), fun _ _ => rfl, hw.rep.less (gl N Cs),
      ⟨by rw [stoAt_length]; omega, fun _ _ => rfl, fun i e he ho => by
        rcases gl N Cs i e he with rfl | h1
        · cases ho
        · exact .inl ⟨i, e, h1, ho, rfl⟩, rfl, rfl, rfl, Nat.le_refl _, fun _ _ _ => rfl⟩⟩
  have ds0 : DSim Δ ρ st.n st.t st.s 0 (fun _ => a) := by
    intro ρL hag w1
    exact ⟨h.defers, h.size, fun t v hv => by rw [V.abs_congr hag v (h.bd t v hv)]; exact h.tmps t v hv, fun t v hv => by rw [List.length_replicate]; exact h.bd t v hv, rep_no _ _ _, sbd_no _⟩
  have cnt0 : ∀ m, ((List.range m).filter fun j => !(Array.replicate ops.size false).getD j false).length = m := by
    intro m
    have : ((List.range m).filter fun j => !(Array.replicate ops.size false).getD j false) = List.range m := List.filter_eq_self.2 fun j _ => by rw [getD_replicate_false]; rfl
    rw [this, List.length_range]
  rw [flA_eq] at hk
  split at hk
  · exact (hno hk).elim
  rename_i htc
  generalize hm' : cutT (tcGo ops.toList []) ops.toList.length = m at hk
  have hm1 : m ≤ ops.size := by rw [← hm', ← hsz]; exact cutT_le _ _
  have hgood : ∀ j, m ≤ j → j < ops.size → goodT (tcGo ops.toList []) j = true := fun j h1 h2 => cutT_good (by rw [hm']; exact h1) (by rw [hsz]; exact h2)
  have hlt1 : (ops.toList.take m).length = m := by rw [List.length_take, hsz]; omega
  obtain ⟨ch, vs, e', N, Cs, hk, q1, hAll, q4, q5, q2, q3⟩ := dq2_sound hno hQ hD htc h.sb (A := fun _ => a) (by rw [hlt1]; omega) (fun j o hj => by
    rw [List.getElem?_take] at hj
    split at hj
    · rw [← Array.getElem?_toList]; exact hj
    · cases hj) (fun o ho => hsel o (List.mem_of_mem_take ho)) ds0 hk
  rw [hlt1] at q4 q5
  have hvs : vs.length = m := by rw [q1, hlt1]
  have := region_anyD (P := P) (ρ := ρ) (s := st.s) (w0 := w) (a0 := a) (vs := vs) (N := N) (Cs := Cs) (m := m) (X := lift r B st ρ w0 fun e s => T (K e s)) (r := r) hok hm1 hvs hAll (fun j o v hj ho hv => by
    have := q3 j o v (by rw [List.getElem?_take, if_pos hj, Array.getElem?_toList]; exact ho) hv
    rw [List.take_take, Nat.min_eq_left (by omega)] at this
    exact this) ?_ ?_ m (Array.replicate ops.size false) ρ a w (inv0 vs N Cs _) (cnt0 _)
  · rw [show m + (ops.size - m) = ops.size by omega] at this
    exact this
  · intro g listed ρL b w' inv hall hg
    have hfin := stoAt_fin (s := st.s) (L := fun q => listed.getD q false) (fun p hp => hall p.1 (q4 p hp)) (fun x hx => hall x.1 (q5 x hx))
    have hr := inv.rep
    have hx := inv.ext
    have hcl : ∀ q, listed.getD q false = true → (∃ o, ops[q]? = some o) → listed.getD q false = true ∧ ∀ t, tcAt (tcGo ops.toList []) q t = true → listed.getD t false = true := fun q hq ho => hAll.closed (L := fun q => listed.getD q false) inv.closed q hq ho
    have hsbF : sbd (stoAt st.s N Cs fun q => listed.getD q false) := fun i e he => by
      rw [stoAt_length]
      exact Ent.okd_bd (stoAt_ok hAll.sb hAll.n hAll.c (g := fun q => listed.getD q false) hcl he).1 (by omega) (fun i hi => okAt_lt hi)
    have sim0 := q2.at inv.agree (stoAt_length _ _ _ _) hsbF inv.rep
    rw [hfin] at hr hx sim0
    have sim : Sim Δ ρL ⟨st.n, e', finS st.s N Cs⟩ b w' := sim0.same (fun t => inv_tmpsD hok hm1 hvs inv hall t) (by rw [inv.defers]; exact h.defers) (by rw [inv.tsize, (actT_size (ρ := ρL) _ vs a).1]) hr
    have hwl := evOps_sound (r := r) (B := B) hno hC hf (ops := ops) (K := K) (st0 := st) (ρ0 := ρ) (w0 := w0) (ops.toList.drop m) ⟨st.n, e', finS st.s N Cs⟩ ρL b w' sim (he0.trans hx) hk
    exact tail_any htc hgood g m listed b w' hg (Nat.le_refl _) hm1 inv.size (fun q hq => hall q hq) (fun q hq => inv.head q hq) hwl
  · intro listed hls hhead hclosed j hj hjr i hi
    obtain ⟨_, oj, hoj, hpre⟩ := mem_ready.1 hjr
    exact tcCk_waits htc j oj hoj (fun q => listed.getD q false) hclosed (fun p hp => by
      obtain ⟨e, he, hb, rfl⟩ := mem_preds.1 hp
      exact hpre e he hb) i (goodT_bit (hgood j hj (Array.getElem?_eq_some_iff.1 hoj).1) (by omega))
end
end Go.Proofs.YtalgegmcllcnmaaRL
end
