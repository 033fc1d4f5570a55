/- A64Kin: the law's function tells true. Printed by genkin.py. -/
import Derived.Test.YtpahclogghdnpaaDoorzA64KinIPlainC
import Derived.Test.YtpahclogghdnpaaDoorzA64KinIInT
import Derived.Test.YtpahclogghdnpaaDoorzA64KinINum
set_option linter.unusedVariables false
set_option linter.unusedSimpArgs false
set_option maxRecDepth 1000000
namespace Go.Proofs.YtpahclogghdnpaaDoor.a64Kin
open Go Go.Proofs Go.Proofs.YtpahclogghdnpaaDoorRL Go.Proofs.YtpahclogghdnpaaDoor.isa Go.Proofs.YtpahclogghdnpaaDoor.a64
noncomputable def EC : Eh := addE 7 knA (specE 8 chkG (addE 11 inA (addE 13 ouA noE)))
theorem EC_ok : EOk Try.prog EC := knA_ok (chkG_ok (inA_ok (ouA_ok noE_ok)))
noncomputable abbrev cd : Code := codeOf Try.prog 5
noncomputable def p1 : List Nat := pathTo 10 cd
noncomputable def c1 : Code := subAt (p1.dropLast.dropLast.dropLast ++ [0]) cd
abbrev KB (K : V → Prop) : Ex → St → Prop := bodyK False Try.prog (funcOf Try.prog 5) (rK K)
def live : List Nat := [1,2,4,5]
abbrev cel (op d n m a c imm : Int) : Ent := .own [.raw (.int .i64 op), .raw (.int .i64 d), .raw (.int .i64 n), .raw (.int .i64 m), .raw (.int .i64 a), .raw (.int .i64 c), .raw (.int .i64 imm)] 23
def S (op d n m a c imm : Int) (g : Nat → Int) (q : Nat) (j : Int) : St := ⟨119, [(1, .ptr 1 0), (2, bV false), (4, .lse 3 2 1 0 q), (5, .raw (.int .i64 j))], [gE, cel op d n m a c imm, .no, .arr (.grow 2) [.int .i64 g] q 3]⟩
def SN (op d n m a c imm : Int) : St := ⟨119, [(1, .ptr 1 0), (2, bV false), (4, .raw (.slice none 0 0)), (5, .raw (.int .i64 0))], [gE, cel op d n m a c imm]⟩
def nilsM (c ie oe : Bool) (A B : List Int) (K : V → Prop) : Prop :=
  let o := Br (c || oe) (K (bV true)) (K (bV ((B.length : Int) == 0)))
  Br (c || ie) o (Br ((A.length : Int) == 0) o (K (bV false)))
def kinM (c ie oe : Bool) (A B : List Int) (K : V → Prop) (ZN : Prop) (Z : (Nat → Int) → Nat → Prop) : Prop :=
  Br c (nilsM c ie oe A B K)
  (Br (c || ie)
     (Br (c || oe) ZN (Br (Nat.ble (0 + B.length) B.length) (Br (Nat.beq B.length 0) ZN (Br (growOk B.length 8) (Z (fun j => lc B (j + 0)) B.length) False)) False))
     (Br (c || oe) (Br (Nat.ble A.length A.length) (Br (growOk (A.length + 0) 8) (Z (fun j => match Nat.blt j A.length with | true => lc A j | false => 0) (A.length + 0)) False) False)
        (Br (Nat.ble (0 + B.length) B.length) (Br (Nat.ble A.length A.length) (Br (growOk (A.length + B.length) 8) (Z (fun j => match Nat.blt j A.length with | true => lc A j | false => lc B (Nat.sub j A.length + 0)) (A.length + B.length)) False) False) False)))
noncomputable abbrev st0 (op d n m a c imm : Int) : St := ⟨(funcOf Try.prog 5).ntmps, zipArgs 0 [insV op d n m a c imm], [gE]⟩
section
variable (op d n m a c imm : Int) (K : V → Prop) (Z : St → Prop)
abbrev kinR (k : Nat) : Prop := kinM (chkV k d n m a c imm != 0) (inRaw d n m a k).isEmpty (outRaw d k).isEmpty (plainL (inRaw d n m a k)) (plainL (outRaw d k)) K (Z (SN k d n m a c imm)) (fun g q => Z (S k d n m a c imm g q 0))
theorem lit : ∀ k : Nat, k < 43 → evTo Try.prog EC 200 1 (fun st => Z (gcSt 1 live st)) p1 cd (st0 (k : Nat) d n m a c imm) (KB K) = kinR d n m a c imm K Z k
  | 0, _ => by kernel_rfl
  | 1, _ => by kernel_rfl
  | 2, _ => by kernel_rfl
  | 3, _ => by kernel_rfl
  | 4, _ => by kernel_rfl
  | 5, _ => by kernel_rfl
  | 6, _ => by kernel_rfl
  | 7, _ => by kernel_rfl
  | 8, _ => by kernel_rfl
  | 9, _ => by kernel_rfl
  | 10, _ => by kernel_rfl
  | 11, _ => by kernel_rfl
  | 12, _ => by kernel_rfl
  | 13, _ => by kernel_rfl
  | 14, _ => by kernel_rfl
  | 15, _ => by kernel_rfl
  | 16, _ => by kernel_rfl
  | 17, _ => by kernel_rfl
  | 18, _ => by kernel_rfl
  | 19, _ => by kernel_rfl
  | 20, _ => by kernel_rfl
  | 21, _ => by kernel_rfl
  | 22, _ => by kernel_rfl
  | 23, _ => by kernel_rfl
  | 24, _ => by kernel_rfl
  | 25, _ => by kernel_rfl
  | 26, _ => by kernel_rfl
  | 27, _ => by kernel_rfl
  | 28, _ => by kernel_rfl
  | 29, _ => by kernel_rfl
  | 30, _ => by kernel_rfl
  | 31, _ => by kernel_rfl
  | 32, _ => by kernel_rfl
  | 33, _ => by kernel_rfl
  | 34, _ => by kernel_rfl
  | 35, _ => by kernel_rfl
  | 36, _ => by kernel_rfl
  | 37, _ => by kernel_rfl
  | 38, _ => by kernel_rfl
  | 39, _ => by kernel_rfl
  | 40, _ => by kernel_rfl
  | 41, _ => by kernel_rfl
  | 42, _ => by kernel_rfl
  | k + 43, h => absurd h (by omega)
theorem out : evTo Try.prog EC 200 1 (fun _ => False) [0, 0, 0] cd (st0 op d n m a c imm) (KB K) = Br (chkV op d n m a c imm != 0) (nilsM (chkV op d n m a c imm != 0) (inRaw d n m a op.toNat).isEmpty (outRaw d op.toNat).isEmpty (plainL (inRaw d n m a op.toNat)) (plainL (outRaw d op.toNat)) K) False := by kernel_rfl
def IX (k : Int) (n N : Nat) (P : Prop) : Prop := Br (decide (0 ≤ k)) (Br (decide (k < n)) (Br (Nat.blt (k.toNat + 0) N) P False) False) False
def elM (x : Int) (R P : Prop) : Prop := Br (decide (x < 0)) R (Br (x == 31) R (Br (decide (x > 33)) R (Br (decide (x ≤ 30)) (Br (x != d) (Br (x != n) (Br (x != m) (Br (x != a) (Br (x == 30) (Br (op == 24) P (Br (!(op == 26)) R P)) R) P) P) P) P) P)))
def rM (g : Nat → Int) (q : Nat) (j : Int) (R P X : Prop) : Prop := Br (decide (j < (q : Nat))) (IX j q q (elM op d n m a (g (j.toNat + 0)) R P)) X
theorem r_eq (g : Nat → Int) (q : Nat) (j : Int) (K : Ex → St → Prop) : evG Try.prog EC 200 (lft (subAt p1 cd)) (S op d n m a c imm g q j) (fun e st => K e (gcSt 1 live st)) =
    rM op d n m a g q j (K .ret (S op d n m a c imm g q j)) (K .normal (S op d n m a c imm g q (IntKind.i64.wrap (j + 1)))) (K (.exit 0) (S op d n m a c imm g q j)) := by kernel_rfl
theorem aft (K : Ex → St → Prop) (st : St) : ctxK Try.prog 1 p1 cd K (.exit 0) st = CodeB Try.prog 1 c1 st K := by kernel_rfl
theorem fin (g : Nat → Int) (q : Nat) (j : Int) : evG Try.prog EC 200 c1 (S op d n m a c imm g q j) (KB K) = K (bV true) := by kernel_rfl
theorem rN_eq (K : Ex → St → Prop) : evG Try.prog EC 200 (lft (subAt p1 cd)) (SN op d n m a c imm) (fun e st => K e (gcSt 1 live st)) = K (.exit 0) (SN op d n m a c imm) := by kernel_rfl
theorem finN : evG Try.prog EC 200 c1 (SN op d n m a c imm) (KB K) = K (bV true) := by kernel_rfl
end
theorem mem_sort {q : Int} : ∀ {l : List Int}, q ∈ sortL l ↔ q ∈ l
  | [] => Iff.rfl
  | [_] => Iff.rfl
  | [a, b] => by
    show q ∈ (if b < a then [b, a] else [a, b]) ↔ _
    split <;> simp only [List.mem_cons, List.not_mem_nil, or_false] <;> grind
  | [a, b, c] => by
    show q ∈ (if b < a then (if c < a then (if c < b then [c, b, a] else [b, c, a]) else [b, a, c]) else (if c < b then (if c < a then [c, a, b] else [a, c, b]) else [a, b, c])) ↔ _
    split <;> split <;> (try split) <;> simp only [List.mem_cons, List.not_mem_nil, or_false] <;> grind
  | _ :: _ :: _ :: _ :: _ => Iff.rfl
theorem mem_ded {q : Int} : ∀ {l : List Int}, q ∈ dedL l ↔ q ∈ l
  | [] => Iff.rfl
  | [_] => Iff.rfl
  | [a, b] => by
    show q ∈ (if b = a then [a] else [a, b]) ↔ _
    split <;> simp only [List.mem_cons, List.not_mem_nil, or_false] <;> grind
  | [a, b, c] => by
    show q ∈ (if b = a then (if c = b then [a] else [a, c]) else (if c = b then [a, b] else [a, b, c])) ↔ _
    split <;> split <;> simp only [List.mem_cons, List.not_mem_nil, or_false] <;> grind
  | _ :: _ :: _ :: _ :: _ => Iff.rfl
theorem mem_plain {q : Int} {l : List Int} : q ∈ plainL l ↔ q ∈ l ∧ q ≠ 31 := by
  unfold plainL filtL
  rw [List.mem_filter, mem_ded, mem_sort]
  simp
theorem len_inn (d n m a : Int) (k : Nat) : (inRaw d n m a k).length ≤ 3 := by
  unfold inRaw
  split <;> simp
theorem len_ouu (d : Int) (k : Nat) : (outRaw d k).length ≤ 3 := by
  unfold outRaw
  split <;> simp
theorem len_sort (l : List Int) : (sortL l).length = l.length := by
  unfold sortL
  repeat' split
  all_goals rfl
theorem len_ded (l : List Int) : (dedL l).length ≤ l.length := by
  unfold dedL
  repeat' split
  all_goals simp
theorem len_plain (l : List Int) : (plainL l).length ≤ l.length := by
  unfold plainL filtL
  refine Nat.le_trans (List.length_filter_le ..) (Nat.le_trans (len_ded _) ?_)
  rw [len_sort]; exact Nat.le_refl _
/-- What a register that is read or written is. -/
def FE (op d n m a x : Int) : Prop := 0 ≤ x ∧ x ≠ 31 ∧ x ≤ 33 ∧ (x ≤ 30 → x = d ∨ x = n ∨ x = m ∨ x = a ∨ (x = 30 ∧ (op = 24 ∨ op = 26)))
theorem rg_in {b : Bool} {v : Int} (h : rgP b v) : 0 ≤ v ∧ v ≤ 31 := by
  cases b with
  | true => exact h
  | false => have h : v = 0 := h; omega
theorem in_el {d n m a x : Int} {k : Nat} (h : x ∈ inRaw d n m a k) : x = n ∨ x = m ∨ x = a ∨ x = d ∨ x = stk n ∨ x = 33 := by
  unfold inRaw at h
  split at h <;> simp only [List.mem_cons, List.not_mem_nil, or_false] at h <;> first | exact h.elim | grind
theorem out_el {d x : Int} {k : Nat} (h : x ∈ outRaw d k) : x = d ∨ x = stk d ∨ x = 33 ∨ (x = 30 ∧ (k = 24 ∨ k = 26)) := by
  unfold outRaw at h
  split at h <;> simp only [List.mem_cons, List.not_mem_nil, or_false] at h <;> first | exact h.elim | grind
theorem stk_in (n : Int) : stk n = 32 ∨ stk n = n := by
  unfold stk
  cases n == 31
  · exact .inr rfl
  · exact .inl rfl
theorem fe_in {d n m a c imm x : Int} {k : Nat} (hc : okP k d n m a c imm) (h : x ∈ plainL (inRaw d n m a k)) : FE (k : Nat) d n m a x := by
  obtain ⟨h1, h2⟩ := mem_plain.1 h
  obtain ⟨c1, c2, c3, c4, _⟩ := hc
  have c1 := rg_in c1
  have c2 := rg_in c2
  have c3 := rg_in c3
  have c4 := rg_in c4
  have hs := stk_in n
  unfold FE
  rcases in_el h1 with e | e | e | e | e | e
  all_goals omega
theorem fe_out {d n m a c imm x : Int} {k : Nat} (hc : okP k d n m a c imm) (h : x ∈ plainL (outRaw d k)) : FE (k : Nat) d n m a x := by
  obtain ⟨h1, h2⟩ := mem_plain.1 h
  obtain ⟨c1, c2, c3, c4, _⟩ := hc
  have c1 := rg_in c1
  have hs := stk_in d
  unfold FE
  rcases out_el h1 with e | e | e | ⟨e, e2⟩
  all_goals omega
theorem lc_mem {l : List Int} {j : Nat} (h : j < l.length) : lc l j ∈ l := by
  unfold lc
  rw [List.getD_eq_getElem?_getD, List.getElem?_eq_getElem h]
  exact List.getElem_mem h
abbrev isT : V → Prop := fun v => v = bV true
abbrev KO : Ex → St → Prop := ctxK Try.prog 1 p1 cd (KB isT)
theorem IX_ok {k n : Nat} {P : Prop} (h : k < n) (hp : P) : IX (k : Int) n n P := by
  unfold IX
  rw [decide_eq_true (show (0 : Int) ≤ (k : Int) by omega), decide_eq_true (show (k : Int) < (n : Int) by omega), show Nat.blt ((k : Int).toNat + 0) n = true from by show Nat.blt (k + 0) n = true; rw [Nat.blt_eq]; omega]
  exact hp
theorem el_ok {op d n m a x : Int} {R P : Prop} (h : FE op d n m a x) (hp : P) : elM op d n m a x R P := by
  obtain ⟨h1, h2, h3, h4⟩ := h
  unfold elM
  rw [decide_eq_false (show ¬ x < 0 by omega), show (x == 31) = false from by rw [beq_eq_false_iff_ne]; exact h2, decide_eq_false (show ¬ x > 33 by omega)]
  show Br (decide (x ≤ 30)) _ P
  by_cases h5 : x ≤ 30
  · rw [decide_eq_true h5]
    show Br (x != d) _ P
    have h4 := h4 h5
    cases e1 : x != d
    · exact hp
    show Br (x != n) _ P
    cases e2 : x != n
    · exact hp
    show Br (x != m) _ P
    cases e3 : x != m
    · exact hp
    show Br (x != a) _ P
    cases e4 : x != a
    · exact hp
    simp only [bne_iff_ne, ne_eq] at e1 e2 e3 e4
    have h6 : x = 30 ∧ (op = 24 ∨ op = 26) := by
      rcases h4 with h | h | h | h | h
      · exact absurd h e1
      · exact absurd h e2
      · exact absurd h e3
      · exact absurd h e4
      · exact h
    show Br (x == 30) (Br (op == 24) P (Br (!(op == 26)) R P)) R
    rw [show (x == 30) = true from by rw [beq_iff_eq]; exact h6.1]
    show Br (op == 24) P (Br (!(op == 26)) R P)
    cases e5 : op == 24
    · show Br (!(op == 26)) R P
      rw [beq_eq_false_iff_ne] at e5
      rw [show (op == 26) = true from by rw [beq_iff_eq]; exact h6.2.resolve_left e5]
      exact hp
    · exact hp
  · rw [decide_eq_false h5]
    exact hp
section
variable {op d n m a c imm : Int}
theorem loop_ok {g : Nat → Int} {q : Nat} (hq : q ≤ 1000) (hg : ∀ j, j < q → FE op d n m a (g j)) (st : St) (hz : gcSt 1 live st = S op d n m a c imm g q ((0 : Nat) : Int)) : CodeB Try.prog 1 (subAt p1 cd) st KO := by
  refine CodeB.lop (by kernel_rfl) (LoopB.byE EC_ok names mixed (N := 200) (fun j : Nat => S op d n m a c imm g q (j : Int)) (fun j => j ≤ q) (fun j => q - j) live (fun j hj => ?_) st 0 (by have h := gc_tells 1 live st; rw [hz] at h; exact h) (Nat.zero_le _))
  have hj : j ≤ q := hj
  rw [r_eq op d n m a c imm g q (j : Int) (RK 1 (fun j : Nat => S op d n m a c imm g q (j : Int)) (fun j => j ≤ q) (fun j => q - j) j KO)]
  unfold rM
  by_cases hlt : j < q
  · have c5 : IntKind.i64.wrap ((j : Int) + 1) = ((j + 1 : Nat) : Int) := by rw [wrap_i64_in (by omega) (by omega)]; omega
    rw [decide_eq_true (show (j : Int) < (q : Nat) by omega), c5, show (j : Int).toNat + 0 = j from rfl]
    exact IX_ok hlt (el_ok (hg j hlt) (RK.go (K := fun _ _ => True) (y := j + 1) rfl hlt (show q - (j + 1) < q - j by omega)))
  · obtain rfl : j = q := by omega
    rw [decide_eq_false (Int.lt_irrefl _)]
    show KO (.exit 0) (S op d n m a c imm g j (j : Int))
    unfold KO
    rw [aft]
    refine CodeB.of (evG_ok EC_ok names mixed (n := 200) ?_)
    rw [fin]
theorem nil_ok (st : St) (hz : gcSt 1 live st = SN op d n m a c imm) : CodeB Try.prog 1 (subAt p1 cd) st KO := by
  refine CodeB.lop (by kernel_rfl) (LoopB.byE EC_ok names mixed (N := 200) (fun _ : Unit => SN op d n m a c imm) (fun _ => True) (fun _ => 0) live (fun _ _ => ?_) st () (by have h := gc_tells 1 live st; rw [hz] at h; exact h) trivial)
  rw [rN_eq op d n m a c imm (RK 1 (fun _ : Unit => SN op d n m a c imm) (fun _ => True) (fun _ => 0) () KO)]
  show KO (.exit 0) (SN op d n m a c imm)
  unfold KO
  rw [aft]
  refine CodeB.of (evG_ok EC_ok names mixed (n := 200) ?_)
  rw [finN]
end
theorem nils_ok {ie oe : Bool} {A B : List Int} : nilsM true ie oe A B isT := rfl
theorem kin_bad {ie oe : Bool} {A B : List Int} {ZN : Prop} {Z : (Nat → Int) → Nat → Prop} : kinM true ie oe A B isT ZN Z := (rfl : bV true = bV true)
theorem ble_self (n : Nat) : Nat.ble n n = true := Nat.ble_eq_true_of_le (Nat.le_refl _)
theorem grow_ok {n : Nat} (h : n ≤ 1000) : growOk n 8 = true := by
  unfold growOk
  rw [Nat.ble_eq_true_of_le (by omega), Nat.ble_eq_true_of_le (by omega)]; rfl
theorem kin_ok {ie oe : Bool} {A B : List Int} {ZN : Prop} {Z : (Nat → Int) → Nat → Prop} (ha : A.length ≤ 3) (hb : B.length ≤ 3) (hn : ZN)
    (hz : ∀ g q, q ≤ 6 → (∀ j, j < q → g j ∈ A ∨ g j ∈ B) → Z g q) : kinM false ie oe A B isT ZN Z := by
  unfold kinM
  rw [Nat.zero_add, ble_self, ble_self, grow_ok (show B.length ≤ 1000 by omega), grow_ok (show A.length + 0 ≤ 1000 by omega), grow_ok (show A.length + B.length ≤ 1000 by omega)]
  cases ie
  · cases oe
    · refine hz _ _ (by omega) fun j hj => ?_
      by_cases h : j < A.length
      · rw [show Nat.blt j A.length = true from by rw [Nat.blt_eq]; exact h]
        exact .inl (lc_mem h)
      · rw [show Nat.blt j A.length = false from by
          cases hb : Nat.blt j A.length with
          | true => rw [Nat.blt_eq] at hb; exact absurd hb h
          | false => rfl]
        exact .inr (lc_mem (show j - A.length + 0 < B.length by omega))
    · refine hz _ _ (by omega) fun j hj => ?_
      rw [show Nat.blt j A.length = true from by rw [Nat.blt_eq]; omega]
      exact .inl (lc_mem (by omega))
  · cases oe
    · show Br (Nat.beq B.length 0) ZN (Z (fun j => lc B (j + 0)) B.length)
      cases Nat.beq B.length 0
      · exact hz _ _ (by omega) fun j hj => .inr (lc_mem (show j + 0 < B.length by omega))
      · exact hn
    · exact hn
theorem law_ok (op d n m a c imm : Int) : CallOk Try.prog 5 [insV op d n m a c imm] [gE] fun r _ => r = .ret (bV true) := by
  refine CallOk.mono (K := rK isT) (CallOk.fnB names (by kernel_rfl) ?_) rK_ok
  by_cases h0 : 0 ≤ op ∧ op ≤ 42
  · obtain ⟨k, rfl⟩ := Int.eq_ofNat_of_zero_le h0.1
    have hk : k < 43 := by omega
    refine evTo_ok EC_ok names mixed (n := 200) (b := 1) (Z := fun st => gcSt 1 live st = SN k d n m a c imm ∨ ∃ g q, (q ≤ 6 ∧ ∀ j, j < q → FE (k : Nat) d n m a (g j)) ∧ gcSt 1 live st = S k d n m a c imm g q ((0 : Nat) : Int)) p1 _ _ _ (fun st hz => ?_) ?_
    · rcases hz with hz | ⟨g, q, ⟨hq, hg⟩, hz⟩
      · exact nil_ok st hz
      · exact loop_ok (by omega) hg st hz
    · rw [lit d n m a c imm isT (fun st => st = SN k d n m a c imm ∨ ∃ g q, (q ≤ 6 ∧ ∀ j, j < q → FE (k : Nat) d n m a (g j)) ∧ st = S k d n m a c imm g q ((0 : Nat) : Int)) k hk]
      unfold kinR
      by_cases hc : okI (k : Nat) d n m a c imm
      · rw [show (chkV (k : Nat) d n m a c imm != 0) = false from by rw [show chkV (k : Nat) d n m a c imm = 0 from if_pos hc]; rfl]
        have hp : okP k d n m a c imm := hc.2
        refine kin_ok (by have := len_plain (inRaw d n m a k); have := len_inn d n m a k; omega) (by have := len_plain (outRaw d k); have := len_ouu d k; omega) (.inl rfl) fun g q hq hg => .inr ⟨g, q, ⟨hq, fun j hj => ?_⟩, rfl⟩
        rcases hg j hj with h | h
        · exact fe_in hp h
        · exact fe_out hp h
      · rw [show (chkV (k : Nat) d n m a c imm != 0) = true from by rw [show chkV (k : Nat) d n m a c imm = 1 from if_neg hc]; rfl]
        exact kin_bad
  · have h1 : (chkV op d n m a c imm != 0) = true := by
      rw [show chkV op d n m a c imm = 1 from if_neg fun hh => h0 hh.1]; rfl
    refine evTo_ok EC_ok names mixed (n := 200) (b := 1) (Z := fun _ => False) [0, 0, 0] _ _ _ (fun st hz => hz.elim) ?_
    rw [out op d n m a c imm isT, h1]
    exact (nils_ok : nilsM true (inRaw d n m a op.toNat).isEmpty (outRaw d op.toNat).isEmpty (plainL (inRaw d n m a op.toNat)) (plainL (outRaw d op.toNat)) isT)
def aks : List AK := [.agg [.int .i64, .int .i64, .int .i64, .int .i64, .int .i64, .int .i64, .int .i64]]
theorem law_call (args : List V) (h : argsOk aks args) : CallOk Try.prog 5 args [gE] fun r _ => r = .ret (.raw (.bool true)) := by
  obtain ⟨ws, r1, rfl, hi, h1⟩ := argsOk_agg h
  cases argsOk_nil h1
  obtain ⟨op, ws, rfl, _, hi⟩ := rawsOk_int hi
  obtain ⟨d, ws, rfl, _, hi⟩ := rawsOk_int hi
  obtain ⟨n, ws, rfl, _, hi⟩ := rawsOk_int hi
  obtain ⟨m, ws, rfl, _, hi⟩ := rawsOk_int hi
  obtain ⟨a, ws, rfl, _, hi⟩ := rawsOk_int hi
  obtain ⟨c, ws, rfl, _, hi⟩ := rawsOk_int hi
  obtain ⟨im, ws, rfl, _, hi⟩ := rawsOk_int hi
  cases rawsOk_nil hi
  exact law_ok op d n m a c im
end Go.Proofs.YtpahclogghdnpaaDoor.a64Kin
