/- RL: regions that draw their order, new blocks among what is done: what a run in the text's order tells. -/
import Derived.Test.YtpahclogghdnpaaDoorzA64KindsRLD
namespace Go.Proofs.YtpahclogghdnpaaDoorRL
open Go
set_option linter.unusedVariables false
set_option linter.unusedSimpArgs false
variable {Δ : List Deferred}
mutual
theorem V.ok_mono {f g : Nat → Bool} (h : ∀ i, f i = true → g i = true) : ∀ (v : V), v.ok f = true → v.ok g = true
  | .raw v, _ => rfl
  | .md k m l, _ => rfl
  | .ptr i o, hb => h i hb
  | .sl i o n c, hb => h i hb
  | .mp i, hb => h i hb
  | .yld i, hb => h i hb
  | .lst i k o e m, hb => by simp only [V.ok, Bool.and_eq_true] at hb ⊢; exact ⟨h i hb.1, h k hb.2⟩
  | .el i z k f, hb => by simp only [V.ok] at hb ⊢; exact h i hb
  | .sle i z k n c, hb => by simp only [V.ok] at hb ⊢; exact h i hb
  | .lse i k z e m, hb => by simp only [V.ok, Bool.and_eq_true] at hb ⊢; exact ⟨h i hb.1, h k hb.2⟩
  | .lend i k o e l z, hb => by simp only [V.ok, Bool.and_eq_true] at hb ⊢; exact ⟨h i hb.1, h k hb.2⟩
  | .fn _ a b, hb => by simp only [V.ok, Bool.and_eq_true] at hb ⊢; exact ⟨okL_mono h a hb.1, okL_mono h b hb.2⟩
  | .ifc t v, hb => by simp only [V.ok] at hb ⊢; exact V.ok_mono h v hb
  | .agg cs, hb => by simp only [V.ok] at hb ⊢; exact okL_mono h cs hb
  | .tup vs, hb => by simp only [V.ok] at hb ⊢; exact okL_mono h vs hb
theorem okL_mono {f g : Nat → Bool} (h : ∀ i, f i = true → g i = true) : ∀ (l : List V), okL f l = true → okL g l = true
  | [], _ => rfl
  | v :: l, hb => by simp only [okL, Bool.and_eq_true] at hb ⊢; exact ⟨V.ok_mono h v hb.1, okL_mono h l hb.2⟩
end
theorem Ent.ok_mono {f g : Nat → Bool} (h : ∀ i, f i = true → g i = true) {e : Ent} (he : e.ok f = true) : e.ok g = true := by
  cases e with
  | own cs t => exact okL_mono h cs he
  | ro cs => exact okL_mono h cs he
  | map es c =>
    refine List.all_eq_true.2 fun x hx => ?_
    have := List.all_eq_true.1 he x hx
    simp only [Bool.and_eq_true] at this ⊢
    exact ⟨V.ok_mono h _ this.1, V.ok_mono h _ this.2⟩
  | lst cs t k z => simp only [Ent.ok, Bool.and_eq_true] at he ⊢; exact ⟨okL_mono h cs he.1, h k he.2⟩
  | arr m cols q t =>
    cases m with
    | grow k => exact h k he
    | _ => rfl
  | lp => cases he
  | glob => rfl
  | no => rfl
theorem Ent.bd_mono {n m : Nat} (hle : n ≤ m) {f : Ent} (hf : f.bd n) : f.bd m := Ent.bd_mono' hle f hf
theorem Ent.okd_bd {f : Nat → Bool} {b n : Nat} {e : Ent} (h : e.okd f b) (hn : b ≤ n) (hf : ∀ i, f i = true → i < n) : e.bd n := by
  rcases h with h | ⟨h, _⟩
  · exact Ent.bd_ok hf h
  · exact Ent.bd_mono hn h
theorem maskN_length (f : Nat → Bool) (N : List (Nat × Ent)) : (maskN f N).length = N.length := by simp [maskN]
theorem maskN_all {f : Nat → Bool} {N : List (Nat × Ent)} (h : ∀ p ∈ N, f p.1 = true) : maskN f N = N.map (·.2) := by
  refine List.map_congr_left fun p hp => ?_
  simp only [h p hp]
theorem maskN_get {f : Nat → Bool} {N : List (Nat × Ent)} {k : Nat} {e : Ent} (h : (maskN f N)[k]? = some e) : ∃ p, N[k]? = some p ∧ ((f p.1 = true ∧ e = p.2) ∨ (f p.1 = false ∧ e = .no)) := by
  simp only [maskN, List.getElem?_map] at h
  obtain ⟨p, hp, rfl⟩ := Option.map_eq_some_iff.1 h
  refine ⟨p, hp, ?_⟩
  cases hf : f p.1
  · exact .inr ⟨rfl, rfl⟩
  · exact .inl ⟨rfl, rfl⟩
theorem maskN_at {f : Nat → Bool} {N : List (Nat × Ent)} {k : Nat} {p : Nat × Ent} (h : N[k]? = some p) (hf : f p.1 = true) : (maskN f N)[k]? = some p.2 := by
  simp [maskN, h, hf]
/-- A store of which less is known. -/
theorem Rep.less {ρ : Rho} {s s' : Sto} {w : World} (h : Rep ρ s w) (hs : ∀ (i : Nat) (e : Ent), s'[i]? = some e → e = .no ∨ s[i]? = some e) : Rep ρ s' w := by
  refine ⟨fun i e he => ?_, fun i j e f he hf ho hl hij => ?_⟩
  · rcases hs i e he with rfl | h1
    · trivial
    · exact h.ent i e h1
  · rcases hs i e he with rfl | h1
    · cases ho
    · rcases hs j f hf with rfl | h2
      · cases hl
      · exact h.sep i j e f h1 h2 ho hl hij
theorem mask_less {s : Sto} {N M : List (Nat × Ent)} {f g : Nat → Bool} (hfg : ∀ q, f q = true → g q = true) (i : Nat) (e : Ent) (h : (s ++ maskN f N)[i]? = some e) : e = .no ∨ (s ++ maskN g (N ++ M))[i]? = some e := by
  by_cases hi : i < s.length
  · rw [List.getElem?_append_left hi] at h ⊢
    exact .inr h
  · rw [List.getElem?_append_right (by omega)] at h ⊢
    obtain ⟨p, hp, ⟨h1, rfl⟩ | ⟨h1, rfl⟩⟩ := maskN_get h
    · refine .inr (maskN_at ?_ (hfg _ h1))
      rw [List.getElem?_append_left (List.getElem?_eq_some_iff.1 hp).1]
      exact hp
    · exact .inl rfl
theorem okAt_cases {b : Nat} {N : List (Nat × Ent)} {f : Nat → Bool} {i : Nat} (h : okAt b N f i = true) : i < b ∨ ∃ p, b ≤ i ∧ N[i - b]? = some p ∧ f p.1 = true := by
  unfold okAt at h
  split at h
  · rename_i hb; exact .inl (by simpa using hb)
  · rename_i hb
    have hle : b ≤ i := by
      rcases Nat.lt_or_ge i b with hh | hh
      · rw [← Nat.blt_eq, hb] at hh; cases hh
      · exact hh
    split at h
    · rename_i p hp; exact .inr ⟨p, hle, hp, h⟩
    · cases h
theorem okAt_lt {b : Nat} {N : List (Nat × Ent)} {f : Nat → Bool} {i : Nat} (h : okAt b N f i = true) : i < b + N.length := by
  rcases okAt_cases h with h | ⟨p, h1, h2, _⟩
  · omega
  · have := (List.getElem?_eq_some_iff.1 h2).1
    omega
theorem okAt_of_lt {b : Nat} {N : List (Nat × Ent)} {f : Nat → Bool} {i : Nat} (h : i < b) : okAt b N f i = true := by
  have hb : Nat.blt i b = true := by rw [Nat.blt_eq]; exact h
  unfold okAt
  rw [hb]
theorem okAt_of {b : Nat} {N : List (Nat × Ent)} {f : Nat → Bool} {i : Nat} {p : Nat × Ent} (h : b ≤ i) (hp : N[i - b]? = some p) (hf : f p.1 = true) : okAt b N f i = true := by
  unfold okAt
  split
  · rfl
  · rw [hp]; exact hf
theorem okAt_mono {b : Nat} {N M : List (Nat × Ent)} {f g : Nat → Bool} (hfg : ∀ q, f q = true → g q = true) (i : Nat) (h : okAt b N f i = true) : okAt b (N ++ M) g i = true := by
  rcases okAt_cases h with h | ⟨p, h1, h2, h3⟩
  · exact okAt_of_lt h
  · exact okAt_of h1 (by rw [List.getElem?_append_left (List.getElem?_eq_some_iff.1 h2).1]; exact h2) (hfg _ h3)
def Closed (ops : Array Oper) (L : Nat → Bool) : Prop := ∀ (j : Nat) o, ops[j]? = some o → L j = true → ∀ i ∈ preds o, L i = true
def Waits (ops : Array Oper) (o : Oper) (f : Nat → Bool) : Prop := ∀ L, Closed ops L → (∀ p ∈ preds o, L p = true) → ∀ q, f q = true → L q = true
theorem bitN_eq (m q : Nat) : bitN m q = m.testBit q := by
  unfold bitN Nat.testBit
  have h1 : Nat.land (Nat.shiftRight m q) 1 = 1 &&& m >>> q := by rw [Nat.and_comm]; rfl
  rw [h1]
  have h2 : 1 &&& m >>> q = 0 ∨ 1 &&& m >>> q = 1 := by
    rw [Nat.and_comm, Nat.and_one_is_mod]
    omega
  rcases h2 with h | h <;> rw [h] <;> rfl
def uni : List Nat → Nat
  | [] => 0
  | x :: l => Nat.lor x (uni l)
theorem uni_bit {l : List Nat} {q : Nat} (h : bitN (uni l) q = true) : ∃ x ∈ l, bitN x q = true := by
  induction l with
  | nil => rw [bitN_eq, uni] at h; simp at h
  | cons x l ih =>
    rw [bitN_eq] at h
    have h : (x ||| uni l).testBit q = true := h
    rw [Nat.testBit_or, Bool.or_eq_true] at h
    rcases h with h | h
    · exact ⟨x, by simp, by rw [bitN_eq]; exact h⟩
    · obtain ⟨y, hy, h2⟩ := ih (by rw [bitN_eq]; exact h)
      exact ⟨y, by simp [hy], h2⟩
def subN (a b : Nat) : Bool := Nat.beq (Nat.lor a b) b
theorem subN_bit {a b q : Nat} (h : subN a b = true) (hq : bitN a q = true) : bitN b q = true := by
  have h1 : (a ||| b) = b := Nat.eq_of_beq_eq_true h
  rw [bitN_eq] at hq ⊢
  rw [← h1, Nat.testBit_or, hq]
  rfl
def oneN (i : Nat) : Nat := Nat.shiftLeft 1 i
theorem oneN_bit {i q : Nat} : bitN (oneN i) q = true ↔ q = i := by
  rw [bitN_eq]
  have : oneN i = 2 ^ i := Nat.one_shiftLeft i
  rw [this, Nat.testBit_two_pow]
  simp [eq_comm]
def pmask (ps : List Nat) : Nat := uni (ps.map oneN)
theorem pmask_bit {ps : List Nat} {q : Nat} (h : bitN (pmask ps) q = true) : q ∈ ps := by
  obtain ⟨x, hx, h⟩ := uni_bit h
  obtain ⟨i, hi, rfl⟩ := List.mem_map.1 hx
  rw [oneN_bit.1 h]; exact hi
/-- Who waits for whom, through others: a number whose bits are those waited for. -/
def tcGo : List Oper → List Nat → List Nat
  | [], acc => acc
  | o :: os, acc => tcGo os (acc ++ [uni ((preds o).map fun i => Nat.lor (oneN i) (acc.getD i 0))])
def tcCk (ops : List Oper) (TC : List Nat) : Bool := ops.zipIdx.all fun p => Nat.blt (TC.getD p.2 0) (oneN p.2) && (preds p.1).all (fun i => Nat.blt i p.2) && subN (TC.getD p.2 0) (uni ((preds p.1).map fun i => Nat.lor (oneN i) (TC.getD i 0)))
theorem tcCk_lt {ops : Array Oper} {TC : List Nat} (h : tcCk ops.toList TC = true) {j : Nat} {o : Oper} (hj : ops[j]? = some o) {q : Nat} (hq : tcAt TC j q = true) : q < j := by
  have h1 := List.all_eq_true.1 h (o, j) (List.mem_zipIdx_iff_getElem?.2 (by rw [Array.getElem?_toList]; exact hj))
  simp only [Bool.and_eq_true, Nat.blt_eq] at h1
  have h2 : TC.getD j 0 < 2 ^ j := by rw [← Nat.one_shiftLeft]; exact h1.1.1
  unfold tcAt at hq
  rw [bitN_eq] at hq
  rcases Nat.lt_or_ge q j with hlt | hge
  · exact hlt
  · rw [Nat.testBit_lt_two_pow (Nat.lt_of_lt_of_le h2 (Nat.pow_le_pow_right (by omega) hge))] at hq
    cases hq
theorem tcCk_waits {ops : Array Oper} {TC : List Nat} (h : tcCk ops.toList TC = true) : ∀ (j : Nat) o, ops[j]? = some o → Waits ops o (tcAt TC j) := by
  intro j
  induction j using Nat.strongRecOn with
  | _ j ih =>
    intro o hj L hL hp q hq
    have h1 := List.all_eq_true.1 h (o, j) (List.mem_zipIdx_iff_getElem?.2 (by rw [Array.getElem?_toList]; exact hj))
    simp only [Bool.and_eq_true] at h1
    obtain ⟨x, hx, h2⟩ := uni_bit (subN_bit h1.2 hq)
    obtain ⟨i, hi, rfl⟩ := List.mem_map.1 hx
    have h3 : (oneN i ||| TC.getD i 0).testBit q = true := by rw [← bitN_eq]; exact h2
    rw [Nat.testBit_or, Bool.or_eq_true, ← bitN_eq, ← bitN_eq] at h3
    rcases h3 with h3 | h3
    · rw [oneN_bit.1 h3]; exact hp i hi
    · have hij : i < j := by
        have := List.all_eq_true.1 h1.1.2 i hi
        simpa [Nat.blt_eq] using this
      have hjs : j < ops.size := (Array.getElem?_eq_some_iff.1 hj).1
      have hio : ops[i]? = some (ops[i]'(by omega)) := by simp [show i < ops.size by omega]
      exact ih i hij _ hio L hL (hL i _ hio (hp i hi)) q h3
theorem hideS_length (h : Nat → Bool) : ∀ (k : Nat) (s : Sto), (hideS h k s).length = s.length
  | _, [] => rfl
  | k, e :: s => by simp [hideS, hideS_length h (k + 1) s]
theorem hideS_get (h : Nat → Bool) : ∀ (k : Nat) (s : Sto) (i : Nat), (hideS h k s)[i]? = s[i]?.map fun e => noIf (h (k + i)) e
  | _, [], i => by simp [hideS]
  | k, e :: s, 0 => by simp [hideS]
  | k, e :: s, i + 1 => by
    have := hideS_get h (k + 1) s i
    simp only [hideS, List.getElem?_cons_succ, this]
    rw [show k + 1 + i = k + (i + 1) by omega]
theorem hideS_no {h : Nat → Bool} (hh : ∀ i, h i = false) : ∀ (k : Nat) (s : Sto), hideS h k s = s
  | _, [] => rfl
  | k, e :: s => by rw [hideS, hh k, hideS_no hh (k + 1) s]; rfl
theorem viewQ_eq (TC : List Nat) (ch : List (Nat × Nat)) (s : Sto) (N : List (Nat × Ent)) (Cs : List (Nat × Nat × Ent)) (j : Nat) : viewQ TC ch s N Cs j = viewAt TC ch s N Cs j := by
  unfold viewQ
  split
  · rw [viewAt, hideS_no (h := hid TC [] j) (fun _ => rfl)]
    simp [stoAt, setC, maskN]
  · rfl
theorem setC_length (L : Nat → Bool) : ∀ (Cs : List (Nat × Nat × Ent)) (S : Sto), (setC L Cs S).length = S.length
  | [], _ => rfl
  | c :: cs, S => by
    rw [setC, setC_length L cs]
    cases L c.1 <;> simp
theorem setC_cases {L : Nat → Bool} {i : Nat} {e : Ent} : ∀ {Cs : List (Nat × Nat × Ent)} {S : Sto}, (setC L Cs S)[i]? = some e → S[i]? = some e ∨ ∃ x ∈ Cs, L x.1 = true ∧ x.2 = (i, e) := by
  intro Cs
  induction Cs with
  | nil => intro S h; exact .inl h
  | cons c cs ih =>
    intro S h
    rw [setC] at h
    rcases ih h with h1 | ⟨x, hx, h1, h2⟩
    · cases hc : L c.1 with
      | false => rw [hc] at h1; exact .inl h1
      | true =>
        rw [hc] at h1
        dsimp only at h1
        rw [List.getElem?_set] at h1
        split at h1
        · rename_i hi
          split at h1
          · have he : c.2.2 = e := by simpa using h1
            exact .inr ⟨c, by simp, hc, by rw [← hi, ← he]⟩
          · cases h1
        · exact .inl h1
    · exact .inr ⟨x, by simp [hx], h1, h2⟩
def actC (L : Nat → Bool) (Cs : List (Nat × Nat × Ent)) (i : Nat) : List (Nat × Nat × Ent) := Cs.filter fun c => L c.1 && Nat.beq c.2.1 i
theorem setC_at {L : Nat → Bool} {i : Nat} : ∀ (Cs : List (Nat × Nat × Ent)) (S : Sto), (setC L Cs S)[i]? = match (actC L Cs i).getLast? with | some c => S[i]?.map fun _ => c.2.2 | none => S[i]? := by
  intro Cs
  induction Cs with
  | nil => intro S; rfl
  | cons c cs ih =>
    intro S
    rw [setC, ih]
    have hmap : ∀ (y : Ent), (match L c.1 with | true => S.set c.2.1 c.2.2 | false => S)[i]?.map (fun _ => y) = S[i]?.map fun _ => y := by
      intro y
      cases L c.1 with
      | false => rfl
      | true =>
        dsimp only
        rw [List.getElem?_set]
        split
        · rename_i hi
          subst hi
          split
          · rename_i hlt; simp [hlt]
          · rename_i hlt; simp [Nat.le_of_not_lt hlt]
        · rfl
    simp only [actC, List.filter_cons]
    by_cases hc : (L c.1 && Nat.beq c.2.1 i) = true
    · rw [if_pos hc]
      simp only [Bool.and_eq_true] at hc
      obtain ⟨h1, h2⟩ := hc
      have h2 := Nat.eq_of_beq_eq_true h2
      rw [List.getLast?_cons]
      cases hl : (cs.filter fun c => L c.1 && Nat.beq c.2.1 i).getLast? with
      | some d => simp only [Option.getD_some]; exact hmap _
      | none =>
        simp only [Option.getD_none]
        rw [h1]
        dsimp only
        rw [List.getElem?_set, if_pos h2, h2]
        split
        · rename_i hlt; simp [hlt]
        · rename_i hlt; simp [Nat.le_of_not_lt hlt]
    · rw [if_neg hc]
      cases hl : (cs.filter fun c => L c.1 && Nat.beq c.2.1 i).getLast? with
      | some d => exact hmap _
      | none =>
        cases h1 : L c.1 with
        | false => rfl
        | true =>
          rw [h1] at hc
          have hne : c.2.1 ≠ i := fun h => hc (by rw [h]; simp)
          dsimp only
          rw [List.getElem?_set, if_neg hne]
/-- Operation j, at whatever frame and places that agree on what it looks at. -/
def DGives (P : Program) (ops : Array Oper) (s : Sto) (ρ : Rho) (A : Rho → Act) (j : Nat) (o : Oper) (v : V) (S : Sto) (es : List Ent) (c : Option (Nat × Ent)) : Prop :=
  ∀ (r : Option Nat) ρL, (∀ i, i < s.length → ρL i = ρ i) → ∀ (b : Act) (w : World), b.tmps.size = (A ρL).tmps.size → (∀ t ∈ o.looksAt ops, b.tmps[t]? = (A ρL).tmps[t]?) → Rep ρL S w → ∀ (K : Act → World → Prop) (X : Exit → Act → World → Prop),
    (∀ ρ' w', Acts ρL ρ' w w' S es c → K (b.put o.dst (v.abs ρ')) w') → wpOpIn (Fr r) 0 P ops X j K b w
structure DFact (P : Program) (ops : Array Oper) (TC : List Nat) (ch : List (Nat × Nat)) (s : Sto) (ρ : Rho) (A : Rho → Act) (j : Nat) (o : Oper) (v : V) (N : List (Nat × Ent)) (Cs : List (Nat × Nat × Ent)) (Nj M : List (Nat × Ent)) (es : List Ent) (Cj Cm : List (Nat × Nat × Ent)) (c : Option (Nat × Ent)) : Prop where
  all : N = nexts Nj j es ++ M
  lo : ∀ p ∈ Nj, p.1 < j
  hi : ∀ p ∈ M, j < p.1
  allC : Cs = nextC Cj j c ++ Cm
  loC : ∀ x ∈ Cj, x.1 < j
  hiC : ∀ x ∈ Cm, j < x.1
  vok : v.ok (okF TC s.length (nexts Nj j es) j) = true
  gives : DGives P ops s ρ A j o v (viewAt TC ch s Nj Cj j) es c
/-- The frame in the text's order, at whatever places. -/
def DSim (Δ : List Deferred) (ρ : Rho) (n : Nat) (e : List (Nat × V)) (s : Sto) (m : Nat) (A : Rho → Act) : Prop :=
  ∀ ρL, (∀ i, i < s.length → ρL i = ρ i) → ∀ w, Sim Δ ρL ⟨n, e, List.replicate (s.length + m) .no⟩ (A ρL) w
theorem rep_no (ρ : Rho) (k : Nat) (w : World) : Rep ρ (List.replicate k .no) w := by
  have hn : ∀ (i : Nat) (e : Ent), (List.replicate k Ent.no)[i]? = some e → e = .no := fun i e h => by
    have := List.mem_of_getElem? h
    exact (List.mem_replicate.1 this).2
  exact ⟨fun i e h => by rw [hn i e h]; trivial, fun i j e f he hf ho => by rw [hn i e he] at ho; cases ho⟩
theorem sbd_no (k : Nat) : sbd (List.replicate k .no) := by
  intro i e h
  rw [(List.mem_replicate.1 (List.mem_of_getElem? h)).2]
  trivial
theorem DSim.at {ρ : Rho} {n : Nat} {e : List (Nat × V)} {s : Sto} {m : Nat} {A : Rho → Act} (h : DSim Δ ρ n e s m A) {ρL : Rho} (hag : ∀ i, i < s.length → ρL i = ρ i) {S : Sto} (hlen : S.length = s.length + m) (hb : sbd S) {w : World} (hr : Rep ρL S w) : Sim Δ ρL ⟨n, e, S⟩ (A ρL) w := by
  have h1 := h ρL hag w
  exact ⟨h1.defers, h1.size, h1.tmps, fun t u hu => by have := h1.bd t u hu; simp only [List.length_replicate] at this; rw [hlen]; exact this, hr, hb⟩
theorem DSim.next {ρ : Rho} {n : Nat} {e : List (Nat × V)} {s : Sto} {m : Nat} {A : Rho → Act} (h : DSim Δ ρ n e s m A) {m2 : Nat} (hm : m ≤ m2) {v : V} {dst : Option Tmp} (hv : v.bd (s.length + m2)) : DSim Δ ρ n (putT n e dst v) s m2 (fun ρL => (A ρL).put dst (v.abs ρL)) := by
  intro ρL hag w
  have h1 := h ρL hag w
  have h2 : Sim Δ ρL ⟨n, e, List.replicate (s.length + m2) .no⟩ (A ρL) w := ⟨h1.defers, h1.size, h1.tmps, fun t u hu => by
    have := h1.bd t u hu
    simp only [List.length_replicate] at this ⊢
    exact V.bd_mono (by omega) u this, rep_no _ _ _, sbd_no _⟩
  exact h2.put (dst := dst) (v := v) (rep_no _ _ _) (sbd_no _) (Ext.refl _ _ _) (by rw [List.length_replicate]; exact hv)
def NOk (ops : Array Oper) (TC : List Nat) (b : Nat) (k : Nat) (N : List (Nat × Ent)) : Prop := ∀ p ∈ N, p.1 < k ∧ (∃ o, ops[p.1]? = some o) ∧ p.2.ok (okF TC b N p.1) = true
def COk (ops : Array Oper) (TC : List Nat) (b : Nat) (k : Nat) (N : List (Nat × Ent)) (Cs : List (Nat × Nat × Ent)) : Prop := ∀ x ∈ Cs, x.1 < k ∧ (∃ o, ops[x.1]? = some o) ∧ okAt b N (tcAt TC x.1) x.2.1 = true ∧ x.2.2.ok (okF TC b N x.1) = true
theorem okF_mono {TC : List Nat} {b : Nat} {N M : List (Nat × Ent)} {j i : Nat} (h : okF TC b N j i = true) : okF TC b (N ++ M) j i = true := okAt_mono (fun _ h => h) i h
/-- What stands in the store, of those operations that are done. -/
theorem stoAt_ok {ops : Array Oper} {TC : List Nat} {s : Sto} {k : Nat} {N : List (Nat × Ent)} {Cs : List (Nat × Nat × Ent)} (hs : sbd s) (hN : NOk ops TC s.length k N) (hC : COk ops TC s.length k N Cs) {L : Nat → Bool} {g : Nat → Bool} (hg : ∀ (j : Nat), L j = true → (∃ o, ops[j]? = some o) → g j = true ∧ ∀ q, tcAt TC j q = true → g q = true) {i : Nat} {e : Ent} (he : (stoAt s N Cs L)[i]? = some e) :
    e.okd (okAt s.length N g) s.length ∧ (e.live = true → okAt s.length N g i = true) := by
  have mono : ∀ j, L j = true → (∃ o, ops[j]? = some o) → ∀ x, okF TC s.length N j x = true → okAt s.length N g x = true := by
    intro j hj ho x hx
    obtain ⟨g1, g2⟩ := hg j hj ho
    have := okAt_mono (M := []) (g := g) (fun q hq => by
      rw [Bool.or_eq_true] at hq
      rcases hq with hq | hq
      · rw [Nat.eq_of_beq_eq_true hq]; exact g1
      · exact g2 q hq) x hx
    rwa [List.append_nil] at this
  rcases setC_cases he with h | ⟨x, hx, h1, h2⟩
  · by_cases hi : i < s.length
    · rw [List.getElem?_append_left hi] at h
      exact ⟨.inr ⟨hs i e h, fun k hk => okAt_of_lt hk⟩, fun _ => okAt_of_lt hi⟩
    · rw [List.getElem?_append_right (by omega)] at h
      obtain ⟨p, hp, ⟨h1, rfl⟩ | ⟨h1, rfl⟩⟩ := maskN_get h
      · obtain ⟨_, ho, k3⟩ := hN p (List.mem_of_getElem? hp)
        exact ⟨.inl (Ent.ok_mono (mono p.1 h1 ho) k3), fun _ => okAt_of (by omega) hp (hg p.1 h1 ho).1⟩
      · exact ⟨.inl rfl, fun h => by cases h⟩
  · obtain ⟨_, ho, k2, k3⟩ := hC x hx
    rw [h2] at k2 k3
    refine ⟨.inl (Ent.ok_mono (mono x.1 h1 ho) k3), fun _ => ?_⟩
    have := okAt_mono (M := []) (g := g) (fun q hq => (hg x.1 h1 ho).2 q hq) i k2
    rwa [List.append_nil] at this
theorem stoAt_length (s : Sto) (N : List (Nat × Ent)) (Cs : List (Nat × Nat × Ent)) (L : Nat → Bool) : (stoAt s N Cs L).length = s.length + N.length := by
  rw [stoAt, setC_length, List.length_append, maskN_length]
theorem viewAt_length (TC : List Nat) (ch : List (Nat × Nat)) (s : Sto) (N : List (Nat × Ent)) (Cs : List (Nat × Nat × Ent)) (j : Nat) : (viewAt TC ch s N Cs j).length = s.length + N.length := by
  rw [viewAt, hideS_length, stoAt_length]
theorem viewAt_get {TC : List Nat} {ch : List (Nat × Nat)} {s : Sto} {N : List (Nat × Ent)} {Cs : List (Nat × Nat × Ent)} {j i : Nat} {e : Ent} (h : (viewAt TC ch s N Cs j)[i]? = some e) : e = .no ∨ (hid TC ch j i = false ∧ (stoAt s N Cs (tcAt TC j))[i]? = some e) := by
  rw [viewAt, hideS_get, Nat.zero_add] at h
  obtain ⟨e0, h1, rfl⟩ := Option.map_eq_some_iff.1 h
  cases hh : hid TC ch j i
  · exact .inr ⟨rfl, h1⟩
  · exact .inl rfl
theorem viewAt_sbd {ops : Array Oper} {TC : List Nat} {ch : List (Nat × Nat)} {s : Sto} {k : Nat} {N : List (Nat × Ent)} {Cs : List (Nat × Nat × Ent)} (hs : sbd s) (hN : NOk ops TC s.length k N) (hC : COk ops TC s.length k N Cs) (j : Nat) : sbd (viewAt TC ch s N Cs j) := by
  intro i e he
  rw [viewAt_length]
  rcases viewAt_get he with rfl | ⟨_, h⟩
  · trivial
  · exact Ent.okd_bd (stoAt_ok hs hN hC (g := fun _ => true) (fun _ _ _ => ⟨rfl, fun _ _ => rfl⟩) h).1 (by omega) (fun i hi => okAt_lt hi)
section
variable {P : Program}
theorem wp_move {r : Option Nat} {o : Oper} {a b : Act} {w : World} {Q : Value → World → Prop} (hnd : ∀ c, o.op ≠ .defer c) (h : o.wpIn (Fr r) 0 P a w (fun a' w' => ∃ u, a' = a.put o.dst u ∧ Q u w') (fun _ _ _ => False)) (he : execOp b.eval o = execOp a.eval o) (hs : b.tmps.size = a.tmps.size) (K : Act → World → Prop) (X : Exit → Act → World → Prop) (hK : ∀ u w', Q u w' → K (b.put o.dst u) w') : o.wpIn (Fr r) 0 P b w K X := by
  refine ⟨fun _ _ => trivial, ?_⟩
  have h := h.2
  rw [Oper.semAt_eq _ _ _ hnd] at h ⊢
  rw [he]
  generalize (execOp a.eval o).run P w = x at h
  cases x with
  | ok n w' =>
    cases n <;> simp only [Oper.uponIn] at h ⊢
    case value u => obtain ⟨u', e, q⟩ := h; rw [put_eq e hs]; exact hK _ _ q
    case skip => obtain ⟨u', e, q⟩ := h; rw [put_eq e hs]; exact hK _ _ q
    case defer d =>
      obtain ⟨u', e, q⟩ := h
      have := congrArg Act.defers e
      cases hd : o.dst <;> simp [Act.put, hd] at this
    case enter f args =>
      refine ⟨h.1, CallsIn.mono h.2 fun e w'' he => ?_⟩
      cases e with
      | returned u => dsimp only at he ⊢; obtain ⟨u', e, q⟩ := he; rw [put_eq e hs]; exact hK _ _ q
      | panicked c => exact he.elim
      | outgrown => obtain ⟨_, _, hf⟩ := he; exact hf.elim
    case row row args => exact ⟨h.1, RowsIn.mono h.2 fun u w'' he => by obtain ⟨u', e, q⟩ := he; rw [put_eq e hs]; exact hK _ _ q⟩
    case round l f tmps asg body =>
      refine ⟨h.1, RoundIn.mono h.2 fun e w'' he => ?_⟩
      cases e with
      | returned u => dsimp only at he ⊢; obtain ⟨u', e, q⟩ := he; rw [put_eq e hs]; exact hK _ _ q
      | panicked c => exact he.elim
      | outgrown => obtain ⟨_, _, hf⟩ := he; exact hf.elim
  | halt x w' => cases x <;> simp only [Oper.uponIn] at h
theorem opVal_nd {D : Dh} {op : Op} {e : List (Nat × V)} {s : Sto} {x : V × List Ent × Option (Nat × Ent)} (h : opVal P D op e s = some x) (c : Call) : op ≠ .defer c := fun hc => by rw [hc] at h; simp [opVal, quietVal, stillOp] at h
variable {R : Type} {no : R} {T : R → Prop} (hno : ¬ T no)
include hno
theorem wanted_uni {ops : Array Oper} {o : Oper} {n : Nat} {e : List (Nat × V)} {A B : List (Nat × V) → R} (hk : T (vWantedT no ops.toList o e A B)) :
    ∃ e1 wb, (wb = true → T (A e1)) ∧ (wb = false → T (B e1)) ∧ ∀ ρ s a w, Sim Δ ρ ⟨n, e, s⟩ a w → Region.wanted o (yielded ops a.tmps) = wb ∧ Sim Δ ρ ⟨n, e1, s⟩ a w := by
  unfold vWantedT at hk
  split at hk
  · rename_i hg; exact ⟨e, true, fun _ => hk, fun h => (by cases h), fun ρ s a w h => ⟨by simp [Region.wanted, hg], h⟩⟩
  · rename_i j want hg
    split at hk
    · rename_i oj hoj
      have hoj' : ops[j]? = some oj := by rw [← Array.getElem?_toList]; exact hoj
      split at hk
      · rename_i t ht
        obtain ⟨v, hv, hk⟩ := Wi.out hno hk
        split at hk
        · rename_i b
          have hy : ∀ ρ s a w, Sim Δ ρ ⟨n, e, s⟩ a w → yielded ops a.tmps j = some b := fun ρ s a w h => by
            have hcell := h.tmps t _ hv
            simp [yielded, hoj', ht, hcell, V.abs]
          split at hk
          · rcases Br.out hk with ⟨rfl, hk⟩ | ⟨rfl, hk⟩
            · exact ⟨_, true, fun _ => hk, fun h => (by cases h), fun ρ s a w h => ⟨by simp [Region.wanted, hg, hy ρ s a w h], h.know hv⟩⟩
            · exact ⟨_, false, fun h => (by cases h), fun _ => hk, fun ρ s a w h => ⟨by simp [Region.wanted, hg, hy ρ s a w h], h.know hv⟩⟩
          · rcases Br.out hk with ⟨rfl, hk⟩ | ⟨rfl, hk⟩
            · exact ⟨_, false, fun h => (by cases h), fun _ => hk, fun ρ s a w h => ⟨by simp [Region.wanted, hg, hy ρ s a w h], h.know hv⟩⟩
            · exact ⟨_, true, fun _ => hk, fun h => (by cases h), fun ρ s a w h => ⟨by simp [Region.wanted, hg, hy ρ s a w h], h.know hv⟩⟩
        · rename_i vs
          refine ⟨e, false, fun h => (by cases h), fun _ => hk, fun ρ s a w h => ⟨?_, h⟩⟩
          have hcell := h.tmps t _ hv
          have hy : yielded ops a.tmps j = none := by simp [yielded, hoj', ht, hcell, V.abs]
          simp [Region.wanted, hg, hy]
        · exact (hno hk).elim
      · rename_i ht
        refine ⟨e, false, fun h => (by cases h), fun _ => hk, fun ρ s a w h => ⟨?_, h⟩⟩
        have hy : yielded ops a.tmps j = none := by simp [yielded, hoj', ht]
        simp [Region.wanted, hg, hy]
    · rename_i hoj
      have hoj' : ops[j]? = none := by rw [← Array.getElem?_toList]; exact hoj
      refine ⟨e, false, fun h => (by cases h), fun _ => hk, fun ρ s a w h => ⟨?_, h⟩⟩
      have hy : yielded ops a.tmps j = none := by simp [yielded, hoj']
      simp [Region.wanted, hg, hy]
/-- What a run in the text's order tells of each operation. -/
theorem dqrun_sound {Q : Ch R} {D : Dh} (hQ : PickD T Q D) (hD : DOk P D) {ops : Array Oper} {TC : List Nat} {ch : List (Nat × Nat)} {n : Nat} {s : Sto} (hsb : sbd s) {ρ : Rho} {K : List (Nat × V) → List (Nat × Ent) → List (Nat × Nat × Ent) → R} : ∀ (l : List Oper) (k : Nat) (e : List (Nat × V)) (N : List (Nat × Ent)) (Cs : List (Nat × Nat × Ent)) (A : Rho → Act),
    (∀ (j : Nat) o, l[j]? = some o → ops[k + j]? = some o) → (∀ o ∈ l, ∀ cs x, o.op ≠ .select cs x) → DSim Δ ρ n e s N.length A → NOk ops TC s.length k N → COk ops TC s.length k N Cs → T (dqrun no P Q n ops.toList TC ch s K l k e N Cs) →
    ∃ vs e' N' M Cs' C, T (K e' N' Cs') ∧ vs.length = l.length ∧ N' = N ++ M ∧ Cs' = Cs ++ C ∧ (∀ p ∈ M, k ≤ p.1) ∧ (∀ x ∈ C, k ≤ x.1) ∧ NOk ops TC s.length (k + l.length) N' ∧ COk ops TC s.length (k + l.length) N' Cs' ∧ DSim Δ ρ n e' s N'.length (fun ρL => actT ρL (A ρL) l vs) ∧
      ∀ (j : Nat) o v, l[j]? = some o → vs[j]? = some v → ∃ Nj Mj es Cj Cm c, DFact P ops TC ch s ρ (fun ρL => actT ρL (A ρL) (l.take j) (vs.take j)) (k + j) o v N' Cs' Nj Mj es Cj Cm c := by
  intro l
  induction l with
  | nil => intro k e N Cs A _ _ hS hN hC hq; exact ⟨[], e, N, [], Cs, [], hq, rfl, by simp, by simp, by simp, by simp, hN, hC, hS, fun j o v hj => by simp at hj⟩
  | cons o l ih =>
    intro k e N Cs A hops hsel hS hN hC hq
    simp only [dqrun, fl_eq, viewQ_eq] at hq
    have hj : ops[k]? = some o := hops 0 o rfl
    have hso := hsel o (by simp)
    have key : ∀ (v : V) (es : List Ent) (c : Option (Nat × Ent)) (e1 : List (Nat × V)), DSim Δ ρ n e1 s N.length A → okR TC s.length N (nexts N k es) k (v, es, c) = true → DGives P ops s ρ A k o v (viewAt TC ch s N Cs k) es c →
        T (dqrun no P Q n ops.toList TC ch s K l (k + 1) (putT n e1 o.dst v) (nexts N k es) (nextC Cs k c)) →
        ∃ vs e' N' M Cs' C, T (K e' N' Cs') ∧ vs.length = (o :: l).length ∧ N' = N ++ M ∧ Cs' = Cs ++ C ∧ (∀ p ∈ M, k ≤ p.1) ∧ (∀ x ∈ C, k ≤ x.1) ∧ NOk ops TC s.length (k + (o :: l).length) N' ∧ COk ops TC s.length (k + (o :: l).length) N' Cs' ∧ DSim Δ ρ n e' s N'.length (fun ρL => actT ρL (A ρL) (o :: l) vs) ∧
          ∀ (j : Nat) p u, (o :: l)[j]? = some p → vs[j]? = some u → ∃ Nj Mj es Cj Cm c, DFact P ops TC ch s ρ (fun ρL => actT ρL (A ρL) ((o :: l).take j) (vs.take j)) (k + j) p u N' Cs' Nj Mj es Cj Cm c := by
      intro v es c e1 hS1 hok hg hq
      simp only [okR, Bool.and_eq_true] at hok
      obtain ⟨⟨hv, he⟩, hc⟩ := hok
      have hM0 : nexts N k es = N ++ es.map fun e => (k, e) := rfl
      have hN2 : NOk ops TC s.length (k + 1) (nexts N k es) := by
        intro p hp
        rcases List.mem_append.1 hp with h | h
        · obtain ⟨h1, h2, h4⟩ := hN p h
          exact ⟨by omega, h2, Ent.ok_mono (fun i hi => by rw [hM0]; exact okF_mono hi) h4⟩
        · obtain ⟨ent, hent, rfl⟩ := List.mem_map.1 h
          exact ⟨by simp, ⟨o, hj⟩, List.all_eq_true.1 he ent hent⟩
      have hC2 : COk ops TC s.length (k + 1) (nexts N k es) (nextC Cs k c) := by
        have hold : ∀ x ∈ Cs, x.1 < k + 1 ∧ (∃ o, ops[x.1]? = some o) ∧ okAt s.length (nexts N k es) (tcAt TC x.1) x.2.1 = true ∧ x.2.2.ok (okF TC s.length (nexts N k es) x.1) = true := fun x hx => by
          obtain ⟨h1, h2, h3, h4⟩ := hC x hx
          exact ⟨by omega, h2, by rw [hM0]; exact okAt_mono (fun _ h => h) _ h3, Ent.ok_mono (fun i hi => by rw [hM0]; exact okF_mono hi) h4⟩
        intro x hx
        cases c with
        | none => exact hold x hx
        | some y =>
          rcases List.mem_append.1 hx with h | h
          · exact hold x h
          · obtain rfl : x = (k, y.1, y.2) := by simpa using h
            simp only [Bool.and_eq_true] at hc
            exact ⟨by simp, ⟨o, hj⟩, by rw [hM0]; exact okAt_mono (fun _ h => h) _ hc.2, hc.1⟩
      have hbd : v.bd (s.length + (nexts N k es).length) := V.bd_ok (fun i hi => okAt_lt hi) v hv
      obtain ⟨vs, e', N', M, Cs', C, i0, i1, i2, j2, i3, j3, i4, j4, i5, i6⟩ := ih (k + 1) _ _ _ _ (fun j o' hj => by have := hops (j + 1) o' (by simpa using hj); rwa [show k + (j + 1) = k + 1 + j by omega] at this) (fun o' ho' => hsel o' (by simp [ho'])) (hS1.next (m2 := (nexts N k es).length) (dst := o.dst) (by rw [hM0]; simp) hbd) hN2 hC2 hq
      have hlen : k + (o :: l).length = k + 1 + l.length := by simp only [List.length_cons]; omega
      have hnc : ∃ C0, nextC Cs k c = Cs ++ C0 ∧ ∀ x ∈ C0, k ≤ x.1 := by
        cases c with
        | none => exact ⟨[], by simp [nextC], by simp⟩
        | some y => exact ⟨_, rfl, fun x hx => by obtain rfl : x = (k, y.1, y.2) := by simpa using hx
                                                  exact Nat.le_refl _⟩
      obtain ⟨C0, hC0, hC0k⟩ := hnc
      refine ⟨v :: vs, e', N', (es.map fun e => (k, e)) ++ M, Cs', C0 ++ C, i0, by simp [i1], by rw [i2, hM0, List.append_assoc], by rw [j2, hC0, List.append_assoc], fun p hp => ?_, fun x hx => ?_, by rw [hlen]; exact i4, by rw [hlen]; exact j4, i5, fun j o' v' hj' hv' => ?_⟩
      · rcases List.mem_append.1 hp with h | h
        · obtain ⟨ent, hent, rfl⟩ := List.mem_map.1 h
          exact Nat.le_refl _
        · have := i3 p h; omega
      · rcases List.mem_append.1 hx with h | h
        · exact hC0k x h
        · have := j3 x h; omega
      · cases j with
        | zero =>
          simp only [List.getElem?_cons_zero, Option.some.injEq] at hj' hv'
          subst hj' hv'
          exact ⟨N, M, es, Cs, C, c, i2, fun p hp => (hN p hp).1, fun p hp => i3 p hp, j2, fun x hx => (hC x hx).1, fun x hx => j3 x hx, hv, hg⟩
        | succ j =>
          have := i6 j o' v' (by simpa using hj') (by simpa using hv')
          rw [show k + (j + 1) = k + 1 + j by omega]
          exact this
    obtain ⟨e1, wb, h1, h2, h3⟩ := wanted_uni hno hq
    have hS1 : DSim Δ ρ n e1 s N.length A := fun ρL hag w => (h3 ρL _ _ w (hS ρL hag w)).2
    have hwn : ∀ ρL, (∀ i, i < s.length → ρL i = ρ i) → Region.wanted o (yielded ops (A ρL).tmps) = wb := fun ρL hag => (h3 ρL _ _ default (hS ρL hag default)).1
    cases wb with
    | true =>
      obtain ⟨⟨v, es, c⟩, hval, hq⟩ := opValC_pick hno hQ (h1 rfl)
      split at hq
      · rename_i hok
        refine key v es c e1 hS1 hok ?_ hq
        intro r ρL hag b w hsz hlk hr K X hK
        obtain ⟨c1, c2⟩ := looks_same hso hlk
        unfold wpOpIn
        simp only [hj]
        rw [c2, if_pos (hwn ρL hag)]
        refine (wp_move (a := A ρL) (opVal_nd hval) (Q := fun u w' => ∃ ρ', u = v.abs ρ' ∧ Acts ρL ρ' w w' (viewAt TC ch s N Cs k) es c) ?_ c1 hsz K X ?_)
        · exact opVal_sound hD (hS1.at hag (viewAt_length TC ch s N Cs k) (viewAt_sbd hsb hN hC k) hr) hval fun ρ' w' r => ⟨_, rfl, ρ', rfl, r⟩
        · rintro u w' ⟨ρ', rfl, r⟩
          exact hK ρ' w' r
      · exact (hno hq).elim
    | false =>
      have hn0 : nexts N k [] = N := by simp [nexts]
      refine key (.raw undef) [] none e1 hS1 rfl ?_ (by rw [hn0]; exact h2 rfl)
      intro r ρL hag b w hsz hlk hr K X hK
      obtain ⟨c1, c2⟩ := looks_same hso hlk
      unfold wpOpIn
      simp only [hj]
      rw [c2, if_neg (by simp [hwn ρL hag])]
      exact ⟨fun _ _ => trivial, hK ρL w (News.none (Same.refl w)).acts⟩
end
end Go.Proofs.YtpahclogghdnpaaDoorRL
