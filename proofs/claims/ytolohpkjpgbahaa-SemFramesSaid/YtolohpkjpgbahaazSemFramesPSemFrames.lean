/- Parts of the proof, one behind the other. -/
import Derived.Test.YtolohpkjpgbahaazSemFramesFWalk2
section
/- SemFrames: what the walk's tests come to. -/
set_option linter.unusedVariables false
set_option linter.unusedSimpArgs false
set_option maxRecDepth 100000
namespace Go.Proofs.Ytolohpkjpgbahaa.semFrames
open Go Go.Proofs Go.Proofs.YtolohpkjpgbahaaRL Go.Proofs.Ytolohpkjpgbahaa.isa
theorem has_row (o : List Int) (x : Int) : hasG (fun q => o.getD q 0) o.length x = o.contains x := by
  have h : (List.range o.length).map (fun q => o.getD q 0) = o := by
    refine List.ext_getElem (by simp) fun i h1 h2 => ?_
    simp [List.getD_eq_getElem?_getD, List.getElem?_eq_getElem h2]
  unfold hasG
  rw [h]
  apply Bool.eq_iff_iff.2
  simp
theorem len_sort : ∀ l : List Int, (sortL l).length = l.length
  | [] => rfl
  | [_] => rfl
  | [a, b] => by show (if b < a then [b, a] else [a, b]).length = 2; split <;> rfl
  | [a, b, c] => by
    show (if b < a then (if c < a then (if c < b then [c, b, a] else [b, c, a]) else [b, a, c]) else (if c < b then (if c < a then [c, a, b] else [a, c, b]) else [a, b, c])).length = 3
    split <;> split <;> (try split) <;> rfl
  | _ :: _ :: _ :: _ :: _ => rfl
theorem len_ded : ∀ l : List Int, (dedL l).length ≤ l.length
  | [] => Nat.le_refl _
  | [_] => Nat.le_refl _
  | [a, b] => by show (if b = a then [a] else [a, b]).length ≤ 2; split <;> simp
  | [a, b, c] => by
    show (if b = a then (if c = b then [a] else [a, c]) else (if c = b then [a, b] else [a, b, c])).length ≤ 3
    split <;> split <;> simp
  | _ :: _ :: _ :: _ :: _ => Nat.le_refl _
theorem len_plain (l : List Int) : (plainL l).length ≤ l.length := by
  unfold plainL filtL
  refine Nat.le_trans (List.length_filter_le _ _) ?_
  rw [← len_sort l]
  exact len_ded _
theorem len_out (d : Int) (k : Nat) : (outRaw d k).length ≤ 2 := by
  unfold outRaw
  split <;> simp
theorem lenM_ok {o : List Int} {P : Prop} (h : o.length < 4) (hp : P) : lenM o P := by
  unfold lenM
  rw [blt_lt h, Nat.ble_eq_true_of_le (Nat.le_refl _)]
  exact hp
/-- Registers m, but those of a list as in r. -/
def mF (r : RF) : RF → List Int → RF
  | m, [] => m
  | m, q :: l => mF r (match q == 33 with | true => flg m r | false => put m r q) l
theorem mF_x {r : RF} : ∀ {l : List Int} {m : RF}, (mF r m l).x = mX r.x m.x l
  | [], m => rfl
  | q :: l, m => by
    unfold mF mX
    rw [mF_x]
    have e : getX (norm r.x) q = getX (norm r.x) q := rfl
    cases q == 33 <;> rfl
theorem mF_fl {r : RF} : ∀ {l : List Int} {m : RF}, ((m.nf = r.nf ∧ m.zf = r.zf ∧ m.cf = r.cf ∧ m.vf = r.vf) ∨ (33 : Int) ∈ l) → r.nf = (mF r m l).nf ∧ r.zf = (mF r m l).zf ∧ r.cf = (mF r m l).cf ∧ r.vf = (mF r m l).vf
  | [], m, h => by
    obtain ⟨h1, h2, h3, h4⟩ := h.resolve_right (fun h => by cases h)
    exact ⟨h1.symm, h2.symm, h3.symm, h4.symm⟩
  | q :: l, m, h => by
    unfold mF
    refine mF_fl ?_
    cases e : q == 33 with
    | true => exact .inl ⟨rfl, rfl, rfl, rfl⟩
    | false =>
      rcases h with h | h
      · exact .inl h
      · rcases List.mem_cons.1 h with h | h
        · subst h; cases e
        · exact .inr h
theorem touK_eq (op : Int) (h : 0 ≤ op) : touK op.toNat = (Br (loadP op) true (op == 36)) := by
  obtain ⟨k, rfl⟩ := Int.eq_ofNat_of_zero_le h
  show touK k = _
  unfold touK loadP
  apply Bool.eq_iff_iff.2
  by_cases h1 : ((k : Int) = 28 ∨ (k : Int) = 30 ∨ (k : Int) = 31 ∨ (k : Int) = 33 ∨ (k : Int) = 35)
  · rw [decide_eq_true h1]
    simp only [Bool.or_eq_true, beq_iff_eq]
    exact ⟨fun _ => rfl, fun _ => by omega⟩
  · rw [decide_eq_false h1]
    show _ ↔ ((k : Int) == 36) = true
    simp only [Bool.or_eq_true, beq_iff_eq]
    omega
/-- What holds of a right instruction's two effects. -/
theorem facts (i : IN) (pc : Int) (r m : RF) (h : i.chk = 0) : Fr i.op.toNat (plainL i.out) (Br (loadP i.op) true (i.op == 36)) (eff i pc r) (eff i pc (mF r m (plainL i.inn))) (norm r.x) r.nf r.zf r.cf r.vf := by
  have hk : okI i.op i.d i.n i.m i.a i.c i.im := by
    by_cases hk : okI i.op i.d i.n i.m i.a i.c i.im
    · exact hk
    · have : i.chk = 1 := if_neg hk
      rw [this] at h; cases h
  obtain ⟨⟨h0, h1⟩, hk⟩ := hk
  have hd : i.d ≠ 33 := by
    have := hk.1
    unfold rgP at this
    split at this <;> omega
  rw [← touK_eq i.op h0]
  refine Fr.plain ?_
  have e : ∀ q : RF, eff i pc q = doE i.op.toNat (norm q.x) q.nf q.zf q.cf q.vf i.d i.n i.m i.a i.c i.im pc := fun q => if_pos h
  rw [e, e]
  refine fr_all i.op.toNat (by omega) hd (fun q hq => ?_) (fun hq => ?_)
  · rw [norm_get, norm_get, mF_x]
    exact agr_m q hq
  · exact mF_fl (.inr (mem_plain.2 ⟨hq, by omega⟩))
theorem bM_ok {h t : Bool} {gA gB gR : Int} {RT NX : Prop} (h0 : (h && !t) = false → gA = gR) (h1 : (h && !t) = true → gA = gB) (hn : NX) : bM h t gA gB gR RT NX := by
  have z : ∀ a : Int, (a != a) = false := fun a => by simp
  cases h <;> cases t
  · rw [show bM false false gA gB gR RT NX = Br (gA != gR) RT NX from rfl, h0 rfl, z]; exact hn
  · rw [show bM false true gA gB gR RT NX = Br (gA != gR) RT NX from rfl, h0 rfl, z]; exact hn
  · rw [show bM true false gA gB gR RT NX = Br (gA != gB) RT NX from rfl, h1 rfl, z]; exact hn
  · rw [show bM true true gA gB gR RT NX = Br (gA != gR) RT NX from rfl, h0 rfl, z]; exact hn
theorem sameM_ok {A : Eff} {nf zf cf vf : Bool} {K : V → Prop} (h : A.nf = nf ∧ A.zf = zf ∧ A.cf = cf ∧ A.vf = vf) (hk : K (bV true)) : sameM A nf zf cf vf K := by
  obtain ⟨rfl, rfl, rfl, rfl⟩ := h
  unfold sameM
  rw [beq_self_eq_true, beq_self_eq_true, beq_self_eq_true, beq_self_eq_true]
  exact hk
theorem midM_ok {op : Int} {A B : Eff} {K : V → Prop} {Z : Bool → Prop} (h : A.next = B.next ∧ A.addr = B.addr ∧ A.data = B.data ∧ A.touch = B.touch) (hz : Z (Br (loadP op) true (op == 36))) : midM op A B K Z := by
  obtain ⟨h1, h2, h3, h4⟩ := h
  have z : ∀ a : Int, (a != a) = false := fun a => by simp
  unfold midM
  rw [h1, h2, h3, h4, z, z, z, beq_self_eq_true]
  revert hz
  cases loadP op <;> exact fun h => h
end Go.Proofs.Ytolohpkjpgbahaa.semFrames
end
section
/- SemFrames: the law's function tells true. -/
set_option linter.unusedVariables false
set_option linter.unusedSimpArgs false
set_option maxRecDepth 100000
namespace Go.Proofs.Ytolohpkjpgbahaa.semFrames
open Go Go.Proofs Go.Proofs.YtolohpkjpgbahaaRL Go.Proofs.Ytolohpkjpgbahaa.isa
theorem EL_ok : EOk Try.prog EL := knG_ok (chkG_ok (inA_ok (ouA_ok (regS_ok (doG_ok (loadG_ok (hasA_ok noE_ok)))))))
abbrev isT : V → Prop := fun v => v = bV true
abbrev KO1 : Ex → St → Prop := ctxK Try.prog 0 p1 cd (KB isT)
abbrev KO2 : Ex → St → Prop := ctxK Try.prog 0 p2 c1 (KB isT)
theorem ne_self (a : Int) : (a != a) = false := by simp
theorem loop_0 {r : RF} {A B : Eff} {t : Bool} {k : Nat} (hF : Fr k [] t A B (norm r.x) r.nf r.zf r.cf r.vf) (st : St) (hz : gcSt 0 live2 st = SJ0 r A B t ((0 : Nat) : Int)) : CodeB Try.prog 0 (subAt p2 c1) st KO2 := by
  refine CodeB.lop (by kernel_rfl) (LoopB.byE EL_ok names mixed (N := 100) (fun j : Nat => SJ0 r A B t (j : Int)) (fun j => j ≤ 33) (fun j => 33 - j) live2 (fun j hj => ?_) st 0 (by have h := gc_tells 0 live2 st; rw [hz] at h; exact h) (by omega))
  have hp := r2_0 r A B t (j : Int) (RK 0 (fun j : Nat => SJ0 r A B t (j : Int)) (fun j => j ≤ 33) (fun j => 33 - j) j KO2)
  refine hp.mpr ?_
  unfold r2M
  by_cases hlt : j ≤ 32
  · have c5 : IntKind.i64.wrap ((j : Int) + 1) = ((j + 1 : Nat) : Int) := by rw [wrap_i64_in (by omega) (by omega)]; omega
    rw [decide_eq_true (show (j : Int) ≤ 32 by omega), c5, norm_get, (hF.2.1 (j : Int)).1 rfl, ne_self]
    exact RK.go (K := fun _ _ => True) (y := j + 1) rfl (show j + 1 ≤ 33 by omega) (show 33 - (j + 1) < 33 - j by omega)
  · rw [decide_eq_false (show ¬ (j : Int) ≤ 32 by omega)]
    show KO2 (.exit 2) (SJ0 r A B t (j : Int))
    unfold KO2
    rw [aft2]
    refine CodeB.of (evG_ok EL_ok names mixed (n := 100) ?_)
    exact (post_0 r A B t (j : Int) isT).mpr (sameM_ok (hF.2.2.2 rfl) rfl)
theorem loop_1 {r : RF} {A B : Eff} {t : Bool} {k : Nat} {o : List Int} (ho : o.length < 4) (hF : Fr k o t A B (norm r.x) r.nf r.zf r.cf r.vf) (st : St) (hz : gcSt 0 live2 st = SJ1 r A B t o ((0 : Nat) : Int)) : CodeB Try.prog 0 (subAt p2 c1) st KO2 := by
  refine CodeB.lop (by kernel_rfl) (LoopB.byE EL_ok names mixed (N := 100) (fun j : Nat => SJ1 r A B t o (j : Int)) (fun j => j ≤ 33) (fun j => 33 - j) live2 (fun j hj => ?_) st 0 (by have h := gc_tells 0 live2 st; rw [hz] at h; exact h) (by omega))
  have hp := r2_1 r A B t o (j : Int) (RK 0 (fun j : Nat => SJ1 r A B t o (j : Int)) (fun j => j ≤ 33) (fun j => 33 - j) j KO2)
  refine hp.mpr ?_
  unfold r2M
  by_cases hlt : j ≤ 32
  · have c5 : IntKind.i64.wrap ((j : Int) + 1) = ((j + 1 : Nat) : Int) := by rw [wrap_i64_in (by omega) (by omega)]; omega
    rw [decide_eq_true (show (j : Int) ≤ 32 by omega), c5, has_row, norm_get A.x, norm_get B.x]
    exact lenM_ok ho (bM_ok (hF.2.1 (j : Int)).1 (hF.2.1 (j : Int)).2 (RK.go (K := fun _ _ => True) (y := j + 1) rfl (show j + 1 ≤ 33 by omega) (show 33 - (j + 1) < 33 - j by omega)))
  · rw [decide_eq_false (show ¬ (j : Int) ≤ 32 by omega)]
    show KO2 (.exit 2) (SJ1 r A B t o (j : Int))
    unfold KO2
    rw [aft2]
    refine CodeB.of (evG_ok EL_ok names mixed (n := 100) ?_)
    refine (post_1 r A B t o (j : Int) isT).mpr (lenM_ok ho ?_)
    rw [has_row]
    cases h : o.contains 33 with
    | true => exact sameM_ok (hF.2.2.1 h) rfl
    | false => exact sameM_ok (hF.2.2.2 h) rfl
theorem part_0 {i : IN} {pc : Int} {r m : RF} {st : St} {k : Nat} (hF : Fr k [] (Br (loadP i.op) true (i.op == 36)) (eff i pc r) (eff i pc m) (norm r.x) r.nf r.zf r.cf r.vf)
    (hm : ∀ Z : St → Prop, evTo Try.prog EL 100 0 (fun st => Z (gcSt 0 live2 st)) p2 c1 st (KB isT) = midM i.op (eff i pc r) (eff i pc m) isT (fun t => Z (SJ0 r (eff i pc r) (eff i pc m) t 0))) : CodeB Try.prog 0 c1 st (KB isT) := by
  refine evTo_ok EL_ok names mixed (n := 100) (b := 0) (Z := fun st => gcSt 0 live2 st = SJ0 r (eff i pc r) (eff i pc m) (Br (loadP i.op) true (i.op == 36)) 0) p2 _ _ _ (fun st hz => loop_0 hF st hz) ?_
  exact (hm fun st => st = SJ0 r (eff i pc r) (eff i pc m) (Br (loadP i.op) true (i.op == 36)) 0).mpr (midM_ok hF.1 rfl)
theorem part_1 {i : IN} {pc : Int} {r m : RF} {st : St} {k : Nat} {o : List Int} (ho : o.length < 4) (hF : Fr k o (Br (loadP i.op) true (i.op == 36)) (eff i pc r) (eff i pc m) (norm r.x) r.nf r.zf r.cf r.vf)
    (hm : ∀ Z : St → Prop, evTo Try.prog EL 100 0 (fun st => Z (gcSt 0 live2 st)) p2 c1 st (KB isT) = midM i.op (eff i pc r) (eff i pc m) isT (fun t => Z (SJ1 r (eff i pc r) (eff i pc m) t o 0))) : CodeB Try.prog 0 c1 st (KB isT) := by
  refine evTo_ok EL_ok names mixed (n := 100) (b := 0) (Z := fun st => gcSt 0 live2 st = SJ1 r (eff i pc r) (eff i pc m) (Br (loadP i.op) true (i.op == 36)) o 0) p2 _ _ _ (fun st hz => loop_1 ho hF st hz) ?_
  exact (hm fun st => st = SJ1 r (eff i pc r) (eff i pc m) (Br (loadP i.op) true (i.op == 36)) o 0).mpr (midM_ok hF.1 rfl)
theorem IX_ok {k n : Nat} {P : Prop} (h : k < n) (hp : P) : IX (k : Int) n P := by
  unfold IX
  rw [decide_eq_true (show (0 : Int) ≤ (k : Int) by omega), decide_eq_true (show (k : Int) < (n : Int) by omega), show (k : Int).toNat + 0 = k from rfl, blt_lt h]
  exact hp
theorem drop_at {l : List Int} {k : Nat} (h : k < l.length) : l.drop k = l.getD k 0 :: l.drop (k + 1) := by
  rw [List.drop_eq_getElem_cons h, List.getD_eq_getElem?_getD, List.getElem?_eq_getElem h]; rfl
theorem len_inn (d n m a : Int) (k : Nat) : (inRaw d n m a k).length ≤ 3 := by
  unfold inRaw
  split <;> simp
/-- The first loop, by its round. -/
theorem first {r m0 : RF} {l : List Int} (hl : l.length < 1000) (S : RF → Int → St)
    (hr : ∀ (m : RF) (k : Int) (K : Ex → St → Prop), evG Try.prog EL 100 (lft (subAt p1 cd)) (S m k) (fun e st => K e (gcSt 0 live st)) = r1M l k (K .normal (S (flg m r) (IntKind.i64.wrap (k + 1)))) (K .normal (S (put m r (l.getD (k.toNat + 0) 0)) (IntKind.i64.wrap (k + 1)))) (K (.exit 0) (S m k)))
    (hx : ∀ k : Nat, CodeB Try.prog 0 c1 (S (mF r m0 l) (k : Int)) (KB isT)) (st : St) (hz : gcSt 0 live st = S m0 ((0 : Nat) : Int)) : CodeB Try.prog 0 (subAt p1 cd) st KO1 := by
  refine CodeB.lop (by kernel_rfl) (LoopB.byE EL_ok names mixed (N := 100) (fun x : RF × Nat => S x.1 (x.2 : Int)) (fun x => x.2 ≤ l.length ∧ mF r x.1 (l.drop x.2) = mF r m0 l) (fun x => l.length - x.2) live (fun x hI => ?_) st (m0, 0) (by have h := gc_tells 0 live st; rw [hz] at h; exact h) ⟨Nat.zero_le _, rfl⟩)
  obtain ⟨m, k⟩ := x
  obtain ⟨h1, h2⟩ := hI
  refine (hr m (k : Int) (RK 0 (fun x : RF × Nat => S x.1 (x.2 : Int)) (fun x => x.2 ≤ l.length ∧ mF r x.1 (l.drop x.2) = mF r m0 l) (fun x => l.length - x.2) (m, k) KO1)).mpr ?_
  unfold r1M
  rw [show (k : Int).toNat + 0 = k from rfl]
  have h1 : k ≤ l.length := h1
  by_cases hlt : k < l.length
  · have c5 : IntKind.i64.wrap ((k : Int) + 1) = ((k + 1 : Nat) : Int) := by rw [wrap_i64_in (by omega) (by omega)]; omega
    have hd : mF r (match l.getD k 0 == 33 with | true => flg m r | false => put m r (l.getD k 0)) (l.drop (k + 1)) = mF r m0 l := by
      have h3 : mF r m (l.drop k) = mF r m0 l := h2
      rw [drop_at hlt] at h3
      exact h3
    rw [decide_eq_true (show (k : Int) < ((l.length : Nat) : Int) by omega), c5]
    refine IX_ok hlt ?_
    cases hq : l.getD k 0 == 33 with
    | true =>
      rw [hq] at hd
      exact RK.go (K := fun _ _ => True) (y := (flg m r, k + 1)) rfl ⟨hlt, hd⟩ (show l.length - (k + 1) < l.length - k by omega)
    | false =>
      rw [hq] at hd
      exact IX_ok hlt (IX_ok hlt (RK.go (K := fun _ _ => True) (y := (put m r (l.getD k 0), k + 1)) rfl ⟨hlt, hd⟩ (show l.length - (k + 1) < l.length - k by omega)))
  · obtain rfl : k = l.length := by omega
    have h2 : mF r m (l.drop l.length) = mF r m0 l := h2
    rw [List.drop_length] at h2
    have h2 : m = mF r m0 l := h2
    rw [decide_eq_false (Int.lt_irrefl _)]
    show KO1 (.exit 0) (S m (l.length : Nat))
    unfold KO1
    rw [aft1, h2]
    exact hx l.length
/-- The first loop where nothing is read. -/
theorem none_read {S0 : St} (hr : ∀ K : Ex → St → Prop, evG Try.prog EL 100 (lft (subAt p1 cd)) S0 (fun e st => K e (gcSt 0 live st)) = K (.exit 0) S0) (hx : CodeB Try.prog 0 c1 S0 (KB isT)) (st : St) (hz : gcSt 0 live st = S0) : CodeB Try.prog 0 (subAt p1 cd) st KO1 := by
  refine CodeB.lop (by kernel_rfl) (LoopB.byE EL_ok names mixed (N := 100) (fun _ : Unit => S0) (fun _ => True) (fun _ => 0) live (fun _ _ => ?_) st () (by have h := gc_tells 0 live st; rw [hz] at h; exact h) trivial)
  refine (hr _).mpr ?_
  show KO1 (.exit 0) S0
  unfold KO1
  rw [aft1]
  exact hx
theorem br_cases {b : Bool} {R Q : Prop} (h1 : b = true → R) (h2 : b = false → Q) : Br b R Q := by
  cases b
  · exact h2 rfl
  · exact h1 rfl
def T (i : IN) (pc : Int) (r o : RF) (s : St) : Prop := i.chk = 0 ∧ ((i.inn = [] ∧ i.out = [] ∧ s = S00 i pc r o 0) ∨ (i.inn = [] ∧ s = S01 i pc r o (plainL i.out) 0) ∨ (i.out = [] ∧ s = S10 i pc r o (plainL i.inn) 0) ∨ s = S11 i pc r o (plainL i.inn) (plainL i.out) 0)
theorem T_ok (i : IN) (pc : Int) (r o : RF) (st : St) (h : T i pc r o (gcSt 0 live st)) : CodeB Try.prog 0 (subAt p1 cd) st KO1 := by
  obtain ⟨hc, h⟩ := h
  have hF := facts i pc r o hc
  have ho : (plainL i.out).length < 4 := by
    have h1 := len_plain i.out
    have h2 := len_out i.d i.op.toNat
    have h3 : (i.out).length ≤ 2 := h2
    omega
  have hl : (plainL i.inn).length < 1000 := by
    have h1 := len_plain i.inn
    have h3 : (i.inn).length ≤ 3 := len_inn i.d i.n i.m i.a i.op.toNat
    omega
  rcases h with ⟨h1, h2, hz⟩ | ⟨h1, hz⟩ | ⟨h2, hz⟩ | hz
  · rw [h1, h2] at hF
    exact none_read (fun K => r1_00 i pc r o 0 K) (part_0 hF fun Z => mid_00 i pc r o 0 isT Z) st hz
  · rw [h1] at hF
    exact none_read (fun K => r1_01 i pc r o (plainL i.out) 0 K) (part_1 ho hF fun Z => mid_01 i pc r o (plainL i.out) 0 isT Z) st hz
  · rw [h2] at hF
    exact first hl (fun m k => S10 i pc r m (plainL i.inn) k) (fun m k K => r1_10 i pc r m (plainL i.inn) k K) (fun k => part_0 hF fun Z => mid_10 i pc r _ (plainL i.inn) k isT Z) st hz
  · exact first hl (fun m k => S11 i pc r m (plainL i.inn) (plainL i.out) k) (fun m k K => r1_11 i pc r m (plainL i.inn) (plainL i.out) k K) (fun k => part_1 ho hF fun Z => mid_11 i pc r _ (plainL i.inn) (plainL i.out) k isT Z) st hz
theorem law_ok (i : IN) (pc : Int) (r o : RF) : CallOk Try.prog 7 [i.v, .raw (.int .u64 pc), r.v, o.v] [] fun q _ => q = .ret (bV true) := by
  refine CallOk.mono (K := rK isT) (CallOk.fnB names (by kernel_rfl) ?_) rK_ok
  refine evTo_ok EL_ok names mixed (n := 100) (b := 0) (Z := fun st => T i pc r o (gcSt 0 live st)) p1 _ _ _ (fun st hz => T_ok i pc r o st hz) ?_
  have hp := pre_eq i pc r o isT (T i pc r o)
  refine hp.mpr ?_
  unfold preM
  refine br_cases (fun _ => rfl) fun h0 => ?_
  have hc : i.chk = 0 := by simpa using h0
  rw [h0, Bool.false_or, Bool.false_or]
  refine br_cases (fun h1 => br_cases (fun h2 => ?_) fun h2 => ?_) (fun h1 => br_cases (fun h2 => ?_) fun h2 => ?_)
  · exact ⟨hc, .inl ⟨by simpa using h1, by simpa using h2, rfl⟩⟩
  · exact ⟨hc, .inr (.inl ⟨by simpa using h1, rfl⟩)⟩
  · exact ⟨hc, .inr (.inr (.inl ⟨by simpa using h2, rfl⟩))⟩
  · exact ⟨hc, .inr (.inr (.inr rfl))⟩
def aks : List AK := [.agg [.int .i64, .int .i64, .int .i64, .int .i64, .int .i64, .int .i64, .int .i64], .one (.int .u64), .agg (List.replicate 32 (.int .u64) ++ [.bool, .bool, .bool, .bool]), .agg (List.replicate 32 (.int .u64) ++ [.bool, .bool, .bool, .bool])]
theorem law_call (args : List V) (h : argsOk aks args) : CallOk Try.prog 7 args [] fun r _ => r = .ret (.raw (.bool true)) := by
  obtain ⟨ws, r1, rfl, hi, h1⟩ := argsOk_agg h
  obtain ⟨pc, r2, rfl, _, h2⟩ := argsOk_int h1
  obtain ⟨us, r3, rfl, hr, h3⟩ := argsOk_agg h2
  obtain ⟨ts, r4, rfl, ho, h4⟩ := argsOk_agg h3
  cases argsOk_nil h4
  obtain ⟨x, nf, zf, cf, vf, _, e1⟩ := rawsOk_regs hr
  obtain ⟨y, nf', zf', cf', vf', _, e2⟩ := rawsOk_regs ho
  obtain ⟨op, ws, rfl, _, hi⟩ := rawsOk_int hi
  obtain ⟨d, ws, rfl, _, hi⟩ := rawsOk_int hi
  obtain ⟨n, ws, rfl, _, hi⟩ := rawsOk_int hi
  obtain ⟨m, ws, rfl, _, hi⟩ := rawsOk_int hi
  obtain ⟨a, ws, rfl, _, hi⟩ := rawsOk_int hi
  obtain ⟨c, ws, rfl, _, hi⟩ := rawsOk_int hi
  obtain ⟨im, ws, rfl, _, hi⟩ := rawsOk_int hi
  cases rawsOk_nil hi
  rw [e1, e2]
  exact law_ok ⟨op, d, n, m, a, c, im⟩ pc ⟨x, nf, zf, cf, vf⟩ ⟨y, nf', zf', cf', vf'⟩
end Go.Proofs.Ytolohpkjpgbahaa.semFrames
end
