/- Parts of the proof, one behind the other. -/
import Derived.Test.YtalgegmcllcnmaazLabJumpsIIns
import Derived.Test.YtalgegmcllcnmaazLabJumpsRLX
import Derived.Test.YtalgegmcllcnmaazLabJumpsINum
section
/- LabJumps: lab.Code.lay of one instruction, as a table's line. -/
set_option linter.unusedVariables false
set_option linter.unusedSimpArgs false
set_option maxRecDepth 1000000
namespace Go.Proofs.Ytalgegmcllcnmaa.labJumps
open Go Go.Proofs Go.Proofs.YtalgegmcllcnmaaRL Go.Proofs.Ytalgegmcllcnmaa.isa
/-- A test whose answer is known. -/
theorem CodeB.cond {P : Program} {b : Nat} {c : Operand} {x y : Code} {st : St} {K : Ex → St → Prop} {v : Bool} (hv : getT st.t c = some (.raw (.bool v))) (h1 : v = true → CodeB P b x st K) (h2 : v = false → CodeB P b y st K) : CodeB P b (.cond c x y) st K := by
  refine ⟨fun r B Δ s0 ρ0 w0 ρ a w hn he hs hf => ?_⟩
  obtain ⟨e1, e2⟩ := hs.eval hv
  exact wpIn_cond_split (t := v) e1 (fun hb => (h1 hb).run r B Δ s0 ρ0 w0 ρ a w hn he hs hf) (fun hb => (h2 hb).run r B Δ s0 ρ0 w0 ρ a w hn he hs hf)
abbrev nilV : V := .raw (.slice none 0 0)
abbrev ap (f : Nat → Int) (n : Nat) (w : Int) : Nat → Int := fun j => match Nat.blt j n with
  | true => f j
  | false => [w].getD (Nat.sub j n) 0
/-- A row of seven numbers, one more behind n. -/
def apI (C : InsC) (n : Nat) (i : List Int) : InsC := ⟨ap C.op n (i.getD 0 0), ap C.d n (i.getD 1 0), ap C.n n (i.getD 2 0), ap C.m n (i.getD 3 0), ap C.a n (i.getD 4 0), ap C.c n (i.getD 5 0), ap C.im n (i.getD 6 0)⟩
def oneI (i : List Int) : InsC := ⟨fun j => [i.getD 0 0].getD j 0, fun j => [i.getD 1 0].getD j 0, fun j => [i.getD 2 0].getD j 0, fun j => [i.getD 3 0].getD j 0, fun j => [i.getD 4 0].getD j 0, fun j => [i.getD 5 0].getD j 0, fun j => [i.getD 6 0].getD j 0⟩
abbrev insE (op d n m a c im : Int) : Ent := .own [.raw (.int .i64 op), .raw (.int .i64 d), .raw (.int .i64 n), .raw (.int .i64 m), .raw (.int .i64 a), .raw (.int .i64 c), .raw (.int .i64 im)] 40
abbrev cE (at_ : Int) (L lab J er : V) : Ent := .own [.raw (.int .u64 at_), L, lab, J, er] 74
noncomputable abbrev cl : Code := codeOf Try.prog 33
abbrev w1 (i : Int) : Int := IntKind.i64.wrap i
abbrev KL (K : Res → Sto → Prop) : Ex → St → Prop := bodyK False Try.prog (funcOf Try.prog 33) K
def live : List Nat := [0,1,2,3,4,5,6,7,8,9,10,11,12]
end Go.Proofs.Ytalgegmcllcnmaa.labJumps
end
section
/- LabJumps: lay, at the stores where it is called; a table's line. Printed by genlay.py. -/
set_option linter.unusedVariables false
set_option linter.unusedSimpArgs false
set_option maxRecDepth 1000000
namespace Go.Proofs.Ytalgegmcllcnmaa.labJumps
open Go Go.Proofs Go.Proofs.YtalgegmcllcnmaaRL Go.Proofs.Ytalgegmcllcnmaa.isa
theorem nx (b : Nat) (K : Ex → St → Prop) (st : St) : ctxK Try.prog b [1,0] cl K .normal st = CodeB Try.prog b (rgt cl) st K := by kernel_rfl
theorem cond_eq : subAt [1,0] cl = .cond (.tmp 12) (lft (subAt [1,0] cl)) .skip := by kernel_rfl
theorem skip_eq (st : St) (K : Ex → St → Prop) : evG Try.prog noE 10 .skip st K = K .normal st := by kernel_rfl
def small (q : Nat) : Bool := Nat.ble (q + 1) 65536
theorem small_no {q : Nat} (h : small q = true) : decide (w1 ((q : Int) + 1) > 65536) = false := by
  have h := Nat.le_of_ble_eq_true h
  refine decide_eq_false ?_
  unfold w1
  rw [wrap_i64]
  omega
theorem growI {q : Nat} (h : small q = true) : growOk (q + 1) 56 = true := by
  have h := Nat.le_of_ble_eq_true h
  unfold growOk
  rw [Nat.ble_eq_true_of_le (by omega), Nat.ble_eq_true_of_le (by omega)]; rfl
section
variable (o MP j1 j2 j3 j4 j5 j6 jz : Ent) (at_ : Int) (lab J er : V) (C : InsC) (q : Nat) (op d n m a c im : Int)
def st1 (av L : V) (q : Nat) (s : Sto) : St := ⟨32, [(12, .raw (.bool (decide (w1 ((q : Int) + 1) > 65536)))), (11, .raw (.int .i64 (w1 ((q : Int) + 1)))), (10, .raw (.int .i64 1)), (9, av), (8, .raw (.int .i64 (q : Int))), (7, L), (6, .ptr 1 1), (5, .ptr 1 0), (4, .ptr 1 0), (0, .ptr 1 0), (1, av)], s⟩
theorem lay_of {args : List V} {av L : V} {q : Nat} {s0 s1 : Sto} (hq : small q = true)
    (pre : ∀ (b : Nat) (K : Res → Sto → Prop) (Z : St → Prop), evTo Try.prog noE 100 b Z [1,0] cl ⟨(funcOf Try.prog 33).ntmps, zipArgs 0 args, s0⟩ (KL K) = Z (st1 av L q s0))
    (post : ∀ K : Res → Sto → Prop, evG Try.prog noE 100 (rgt cl) (st1 av L q s0) (KL K) = Br (Nat.ble q q) (Br (growOk (q + 1) 56) (K (.ret (.tup [])) s1) False) False) (ha : args.length = 2) :
    CallOk Try.prog 33 args s0 fun r s' => r = .ret (.tup []) ∧ s' = s1 := by
  refine CallOk.fnB names (by rw [ha]; kernel_rfl) ?_
  refine evTo_ok noE_ok names mixed (n := 100) (b := s0.length) (Z := fun st => st = st1 av L q s0) [1,0] _ _ _ (fun st hz => ?_) ?_
  · subst hz
    rw [cond_eq]
    refine CodeB.cond (v := decide (w1 ((q : Int) + 1) > 65536)) rfl (fun h => ?_) (fun _ => ?_)
    · rw [small_no hq] at h; cases h
    · refine CodeB.of (evG_ok noE_ok names mixed (n := 10) ?_)
      rw [skip_eq, nx]
      refine CodeB.of (evG_ok noE_ok names mixed (n := 100) ?_)
      rw [post, Nat.ble_eq_true_of_le (Nat.le_refl q), growI hq]
      exact ⟨rfl, rfl⟩
  · rw [pre s0.length _ fun st => st = st1 av L q s0]
theorem pre_A1 (b : Nat) (K : Res → Sto → Prop) (Z : St → Prop) : evTo Try.prog noE 100 b Z [1,0] cl ⟨(funcOf Try.prog 33).ntmps, zipArgs 0 [.ptr 1 0, .sl 5 0 1 1], [o, cE at_ (.lse 4 3 7 0 q) lab J er, MP, .no, .arr (.grow 3) C.cols q 40, insE op d n m a c im, jz]⟩ (KL K) = Z (st1 (.sl 5 0 1 1) (.lse 4 3 7 0 q) q [o, cE at_ (.lse 4 3 7 0 q) lab J er, MP, .no, .arr (.grow 3) C.cols q 40, insE op d n m a c im, jz]) := by kernel_rfl
theorem post_A1 (K : Res → Sto → Prop) : evG Try.prog noE 100 (rgt cl) (st1 (.sl 5 0 1 1) (.lse 4 3 7 0 q) q [o, cE at_ (.lse 4 3 7 0 q) lab J er, MP, .no, .arr (.grow 3) C.cols q 40, insE op d n m a c im, jz]) (KL K) = Br (Nat.ble q q) (Br (growOk (q + 1) 56) (K (.ret (.tup [])) [o, cE at_ (.lse 8 7 7 0 (q + 1)) lab J er, MP, .no, .no, insE op d n m a c im, jz, .no, .arr (.grow 7) (apI C q [op, d, n, m, a, c, im]).cols (q + 1) 40]) False) False := by kernel_rfl
theorem lay_A1 (hq : small q = true) : CallOk Try.prog 33 [.ptr 1 0, .sl 5 0 1 1] [o, cE at_ (.lse 4 3 7 0 q) lab J er, MP, .no, .arr (.grow 3) C.cols q 40, insE op d n m a c im, jz] fun r s' => r = .ret (.tup []) ∧ s' = [o, cE at_ (.lse 8 7 7 0 (q + 1)) lab J er, MP, .no, .no, insE op d n m a c im, jz, .no, .arr (.grow 7) (apI C q [op, d, n, m, a, c, im]).cols (q + 1) 40] := by
  refine lay_of hq (pre := pre_A1 o MP jz at_ lab J er C q op d n m a c im) (ha := rfl) (post := post_A1 o MP jz at_ lab J er C q op d n m a c im)
theorem pre_B1 (b : Nat) (K : Res → Sto → Prop) (Z : St → Prop) : evTo Try.prog noE 100 b Z [1,0] cl ⟨(funcOf Try.prog 33).ntmps, zipArgs 0 [.ptr 1 0, .sl 5 0 1 1], [o, cE at_ (.lse 3 2 7 0 q) lab J er, .no, .arr (.grow 2) C.cols q 40, MP, insE op d n m a c im, jz]⟩ (KL K) = Z (st1 (.sl 5 0 1 1) (.lse 3 2 7 0 q) q [o, cE at_ (.lse 3 2 7 0 q) lab J er, .no, .arr (.grow 2) C.cols q 40, MP, insE op d n m a c im, jz]) := by kernel_rfl
theorem post_B1 (K : Res → Sto → Prop) : evG Try.prog noE 100 (rgt cl) (st1 (.sl 5 0 1 1) (.lse 3 2 7 0 q) q [o, cE at_ (.lse 3 2 7 0 q) lab J er, .no, .arr (.grow 2) C.cols q 40, MP, insE op d n m a c im, jz]) (KL K) = Br (Nat.ble q q) (Br (growOk (q + 1) 56) (K (.ret (.tup [])) [o, cE at_ (.lse 8 7 7 0 (q + 1)) lab J er, .no, .no, MP, insE op d n m a c im, jz, .no, .arr (.grow 7) (apI C q [op, d, n, m, a, c, im]).cols (q + 1) 40]) False) False := by kernel_rfl
theorem lay_B1 (hq : small q = true) : CallOk Try.prog 33 [.ptr 1 0, .sl 5 0 1 1] [o, cE at_ (.lse 3 2 7 0 q) lab J er, .no, .arr (.grow 2) C.cols q 40, MP, insE op d n m a c im, jz] fun r s' => r = .ret (.tup []) ∧ s' = [o, cE at_ (.lse 8 7 7 0 (q + 1)) lab J er, .no, .no, MP, insE op d n m a c im, jz, .no, .arr (.grow 7) (apI C q [op, d, n, m, a, c, im]).cols (q + 1) 40] := by
  refine lay_of hq (pre := pre_B1 o MP jz at_ lab J er C q op d n m a c im) (ha := rfl) (post := post_B1 o MP jz at_ lab J er C q op d n m a c im)
theorem pre_B2 (b : Nat) (K : Res → Sto → Prop) (Z : St → Prop) : evTo Try.prog noE 100 b Z [1,0] cl ⟨(funcOf Try.prog 33).ntmps, zipArgs 0 [.ptr 1 0, .sl 7 0 1 1], [o, cE at_ (.lse 6 5 7 0 q) lab J er, .no, .no, MP, .no, .arr (.grow 5) C.cols q 40, insE op d n m a c im, jz]⟩ (KL K) = Z (st1 (.sl 7 0 1 1) (.lse 6 5 7 0 q) q [o, cE at_ (.lse 6 5 7 0 q) lab J er, .no, .no, MP, .no, .arr (.grow 5) C.cols q 40, insE op d n m a c im, jz]) := by kernel_rfl
theorem post_B2 (K : Res → Sto → Prop) : evG Try.prog noE 100 (rgt cl) (st1 (.sl 7 0 1 1) (.lse 6 5 7 0 q) q [o, cE at_ (.lse 6 5 7 0 q) lab J er, .no, .no, MP, .no, .arr (.grow 5) C.cols q 40, insE op d n m a c im, jz]) (KL K) = Br (Nat.ble q q) (Br (growOk (q + 1) 56) (K (.ret (.tup [])) [o, cE at_ (.lse 10 9 7 0 (q + 1)) lab J er, .no, .no, MP, .no, .no, insE op d n m a c im, jz, .no, .arr (.grow 9) (apI C q [op, d, n, m, a, c, im]).cols (q + 1) 40]) False) False := by kernel_rfl
theorem lay_B2 (hq : small q = true) : CallOk Try.prog 33 [.ptr 1 0, .sl 7 0 1 1] [o, cE at_ (.lse 6 5 7 0 q) lab J er, .no, .no, MP, .no, .arr (.grow 5) C.cols q 40, insE op d n m a c im, jz] fun r s' => r = .ret (.tup []) ∧ s' = [o, cE at_ (.lse 10 9 7 0 (q + 1)) lab J er, .no, .no, MP, .no, .no, insE op d n m a c im, jz, .no, .arr (.grow 9) (apI C q [op, d, n, m, a, c, im]).cols (q + 1) 40] := by
  refine lay_of hq (pre := pre_B2 o MP jz at_ lab J er C q op d n m a c im) (ha := rfl) (post := post_B2 o MP jz at_ lab J er C q op d n m a c im)
theorem pre_C1 (b : Nat) (K : Res → Sto → Prop) (Z : St → Prop) : evTo Try.prog noE 100 b Z [1,0] cl ⟨(funcOf Try.prog 33).ntmps, zipArgs 0 [.ptr 1 0, .sl 11 0 1 1], [o, cE at_ (.lse 3 2 7 0 q) lab J er, .no, .arr (.grow 2) C.cols q 40, MP, j1, j2, j3, j4, j5, j6, insE op d n m a c im, jz]⟩ (KL K) = Z (st1 (.sl 11 0 1 1) (.lse 3 2 7 0 q) q [o, cE at_ (.lse 3 2 7 0 q) lab J er, .no, .arr (.grow 2) C.cols q 40, MP, j1, j2, j3, j4, j5, j6, insE op d n m a c im, jz]) := by kernel_rfl
theorem post_C1 (K : Res → Sto → Prop) : evG Try.prog noE 100 (rgt cl) (st1 (.sl 11 0 1 1) (.lse 3 2 7 0 q) q [o, cE at_ (.lse 3 2 7 0 q) lab J er, .no, .arr (.grow 2) C.cols q 40, MP, j1, j2, j3, j4, j5, j6, insE op d n m a c im, jz]) (KL K) = Br (Nat.ble q q) (Br (growOk (q + 1) 56) (K (.ret (.tup [])) [o, cE at_ (.lse 14 13 7 0 (q + 1)) lab J er, .no, .no, MP, j1, j2, j3, j4, j5, j6, insE op d n m a c im, jz, .no, .arr (.grow 13) (apI C q [op, d, n, m, a, c, im]).cols (q + 1) 40]) False) False := by kernel_rfl
theorem lay_C1 (hq : small q = true) : CallOk Try.prog 33 [.ptr 1 0, .sl 11 0 1 1] [o, cE at_ (.lse 3 2 7 0 q) lab J er, .no, .arr (.grow 2) C.cols q 40, MP, j1, j2, j3, j4, j5, j6, insE op d n m a c im, jz] fun r s' => r = .ret (.tup []) ∧ s' = [o, cE at_ (.lse 14 13 7 0 (q + 1)) lab J er, .no, .no, MP, j1, j2, j3, j4, j5, j6, insE op d n m a c im, jz, .no, .arr (.grow 13) (apI C q [op, d, n, m, a, c, im]).cols (q + 1) 40] := by
  refine lay_of hq (pre := pre_C1 o MP j1 j2 j3 j4 j5 j6 jz at_ lab J er C q op d n m a c im) (ha := rfl) (post := post_C1 o MP j1 j2 j3 j4 j5 j6 jz at_ lab J er C q op d n m a c im)
theorem pre_D1 (b : Nat) (K : Res → Sto → Prop) (Z : St → Prop) : evTo Try.prog noE 100 b Z [1,0] cl ⟨(funcOf Try.prog 33).ntmps, zipArgs 0 [.ptr 1 0, .sl 10 0 1 1], [o, cE at_ (.lse 3 2 7 0 q) lab J er, .no, .arr (.grow 2) C.cols q 40, MP, j1, j2, j3, j4, j5, insE op d n m a c im]⟩ (KL K) = Z (st1 (.sl 10 0 1 1) (.lse 3 2 7 0 q) q [o, cE at_ (.lse 3 2 7 0 q) lab J er, .no, .arr (.grow 2) C.cols q 40, MP, j1, j2, j3, j4, j5, insE op d n m a c im]) := by kernel_rfl
theorem post_D1 (K : Res → Sto → Prop) : evG Try.prog noE 100 (rgt cl) (st1 (.sl 10 0 1 1) (.lse 3 2 7 0 q) q [o, cE at_ (.lse 3 2 7 0 q) lab J er, .no, .arr (.grow 2) C.cols q 40, MP, j1, j2, j3, j4, j5, insE op d n m a c im]) (KL K) = Br (Nat.ble q q) (Br (growOk (q + 1) 56) (K (.ret (.tup [])) [o, cE at_ (.lse 12 11 7 0 (q + 1)) lab J er, .no, .no, MP, j1, j2, j3, j4, j5, insE op d n m a c im, .no, .arr (.grow 11) (apI C q [op, d, n, m, a, c, im]).cols (q + 1) 40]) False) False := by kernel_rfl
theorem lay_D1 (hq : small q = true) : CallOk Try.prog 33 [.ptr 1 0, .sl 10 0 1 1] [o, cE at_ (.lse 3 2 7 0 q) lab J er, .no, .arr (.grow 2) C.cols q 40, MP, j1, j2, j3, j4, j5, insE op d n m a c im] fun r s' => r = .ret (.tup []) ∧ s' = [o, cE at_ (.lse 12 11 7 0 (q + 1)) lab J er, .no, .no, MP, j1, j2, j3, j4, j5, insE op d n m a c im, .no, .arr (.grow 11) (apI C q [op, d, n, m, a, c, im]).cols (q + 1) 40] := by
  refine lay_of hq (pre := pre_D1 o MP j1 j2 j3 j4 j5 at_ lab J er C q op d n m a c im) (ha := rfl) (post := post_D1 o MP j1 j2 j3 j4 j5 at_ lab J er C q op d n m a c im)
theorem pre_C2 (b : Nat) (K : Res → Sto → Prop) (Z : St → Prop) : evTo Try.prog noE 100 b Z [1,0] cl ⟨(funcOf Try.prog 33).ntmps, zipArgs 0 [.ptr 1 0, .sl 13 0 1 1], [o, cE at_ (.lse 12 11 7 0 q) lab J er, .no, .no, MP, j1, j2, j3, j4, j5, j6, .no, .arr (.grow 11) C.cols q 40, insE op d n m a c im, jz]⟩ (KL K) = Z (st1 (.sl 13 0 1 1) (.lse 12 11 7 0 q) q [o, cE at_ (.lse 12 11 7 0 q) lab J er, .no, .no, MP, j1, j2, j3, j4, j5, j6, .no, .arr (.grow 11) C.cols q 40, insE op d n m a c im, jz]) := by kernel_rfl
theorem post_C2 (K : Res → Sto → Prop) : evG Try.prog noE 100 (rgt cl) (st1 (.sl 13 0 1 1) (.lse 12 11 7 0 q) q [o, cE at_ (.lse 12 11 7 0 q) lab J er, .no, .no, MP, j1, j2, j3, j4, j5, j6, .no, .arr (.grow 11) C.cols q 40, insE op d n m a c im, jz]) (KL K) = Br (Nat.ble q q) (Br (growOk (q + 1) 56) (K (.ret (.tup [])) [o, cE at_ (.lse 16 15 7 0 (q + 1)) lab J er, .no, .no, MP, j1, j2, j3, j4, j5, j6, .no, .no, insE op d n m a c im, jz, .no, .arr (.grow 15) (apI C q [op, d, n, m, a, c, im]).cols (q + 1) 40]) False) False := by kernel_rfl
theorem lay_C2 (hq : small q = true) : CallOk Try.prog 33 [.ptr 1 0, .sl 13 0 1 1] [o, cE at_ (.lse 12 11 7 0 q) lab J er, .no, .no, MP, j1, j2, j3, j4, j5, j6, .no, .arr (.grow 11) C.cols q 40, insE op d n m a c im, jz] fun r s' => r = .ret (.tup []) ∧ s' = [o, cE at_ (.lse 16 15 7 0 (q + 1)) lab J er, .no, .no, MP, j1, j2, j3, j4, j5, j6, .no, .no, insE op d n m a c im, jz, .no, .arr (.grow 15) (apI C q [op, d, n, m, a, c, im]).cols (q + 1) 40] := by
  refine lay_of hq (pre := pre_C2 o MP j1 j2 j3 j4 j5 j6 jz at_ lab J er C q op d n m a c im) (ha := rfl) (post := post_C2 o MP j1 j2 j3 j4 j5 j6 jz at_ lab J er C q op d n m a c im)
end
def la_A1 : List V → Sto → Option Ans := fun args s => match args, s with
  | [.ptr 1 0, .sl 5 0 1 1], [o, .own [.raw (.int .u64 at_), .lse 4 3 7 0 q, lab, J, er] 74, MP, .no, .arr (.grow 3) cols q' 40, .own [.raw (.int .i64 op), .raw (.int .i64 d), .raw (.int .i64 n), .raw (.int .i64 m), .raw (.int .i64 a), .raw (.int .i64 c), .raw (.int .i64 im)] 40, jz] => match readInsC cols with
    | some C => some (.br (Nat.beq q q' && small q) (.one (.ret (.tup [])) [o, cE at_ (.lse 8 7 7 0 (q + 1)) lab J er, MP, .no, .no, insE op d n m a c im, jz, .no, .arr (.grow 7) (apI C q [op, d, n, m, a, c, im]).cols (q + 1) 40]) .no)
    | none => none
  | _, _ => none
theorem la_A1_ok {args : List V} {s : Sto} {a : Ans} (h : la_A1 args s = some a) (hf : a.fine) : CallOk Try.prog 33 args s fun r s' => a.is r s' := by
  unfold la_A1 at h
  split at h
  · split at h
    · rename_i hr
      cases h
      obtain rfl := readInsC_eq hr
      rcases hf with ⟨hb, _⟩ | ⟨_, hf⟩
      · have hb2 := hb
        simp only [Bool.and_eq_true] at hb2
        obtain rfl := Nat.eq_of_beq_eq_true hb2.1
        exact (lay_A1 (hq := hb2.2) ..).mono fun r s' h => .inl ⟨hb, h⟩
      · exact hf.elim
    · cases h
  · cases h
def la_B1 : List V → Sto → Option Ans := fun args s => match args, s with
  | [.ptr 1 0, .sl 5 0 1 1], [o, .own [.raw (.int .u64 at_), .lse 3 2 7 0 q, lab, J, er] 74, .no, .arr (.grow 2) cols q' 40, MP, .own [.raw (.int .i64 op), .raw (.int .i64 d), .raw (.int .i64 n), .raw (.int .i64 m), .raw (.int .i64 a), .raw (.int .i64 c), .raw (.int .i64 im)] 40, jz] => match readInsC cols with
    | some C => some (.br (Nat.beq q q' && small q) (.one (.ret (.tup [])) [o, cE at_ (.lse 8 7 7 0 (q + 1)) lab J er, .no, .no, MP, insE op d n m a c im, jz, .no, .arr (.grow 7) (apI C q [op, d, n, m, a, c, im]).cols (q + 1) 40]) .no)
    | none => none
  | _, _ => none
theorem la_B1_ok {args : List V} {s : Sto} {a : Ans} (h : la_B1 args s = some a) (hf : a.fine) : CallOk Try.prog 33 args s fun r s' => a.is r s' := by
  unfold la_B1 at h
  split at h
  · split at h
    · rename_i hr
      cases h
      obtain rfl := readInsC_eq hr
      rcases hf with ⟨hb, _⟩ | ⟨_, hf⟩
      · have hb2 := hb
        simp only [Bool.and_eq_true] at hb2
        obtain rfl := Nat.eq_of_beq_eq_true hb2.1
        exact (lay_B1 (hq := hb2.2) ..).mono fun r s' h => .inl ⟨hb, h⟩
      · exact hf.elim
    · cases h
  · cases h
def la_B2 : List V → Sto → Option Ans := fun args s => match args, s with
  | [.ptr 1 0, .sl 7 0 1 1], [o, .own [.raw (.int .u64 at_), .lse 6 5 7 0 q, lab, J, er] 74, .no, .no, MP, .no, .arr (.grow 5) cols q' 40, .own [.raw (.int .i64 op), .raw (.int .i64 d), .raw (.int .i64 n), .raw (.int .i64 m), .raw (.int .i64 a), .raw (.int .i64 c), .raw (.int .i64 im)] 40, jz] => match readInsC cols with
    | some C => some (.br (Nat.beq q q' && small q) (.one (.ret (.tup [])) [o, cE at_ (.lse 10 9 7 0 (q + 1)) lab J er, .no, .no, MP, .no, .no, insE op d n m a c im, jz, .no, .arr (.grow 9) (apI C q [op, d, n, m, a, c, im]).cols (q + 1) 40]) .no)
    | none => none
  | _, _ => none
theorem la_B2_ok {args : List V} {s : Sto} {a : Ans} (h : la_B2 args s = some a) (hf : a.fine) : CallOk Try.prog 33 args s fun r s' => a.is r s' := by
  unfold la_B2 at h
  split at h
  · split at h
    · rename_i hr
      cases h
      obtain rfl := readInsC_eq hr
      rcases hf with ⟨hb, _⟩ | ⟨_, hf⟩
      · have hb2 := hb
        simp only [Bool.and_eq_true] at hb2
        obtain rfl := Nat.eq_of_beq_eq_true hb2.1
        exact (lay_B2 (hq := hb2.2) ..).mono fun r s' h => .inl ⟨hb, h⟩
      · exact hf.elim
    · cases h
  · cases h
def la_C1 : List V → Sto → Option Ans := fun args s => match args, s with
  | [.ptr 1 0, .sl 11 0 1 1], [o, .own [.raw (.int .u64 at_), .lse 3 2 7 0 q, lab, J, er] 74, .no, .arr (.grow 2) cols q' 40, MP, j1, j2, j3, j4, j5, j6, .own [.raw (.int .i64 op), .raw (.int .i64 d), .raw (.int .i64 n), .raw (.int .i64 m), .raw (.int .i64 a), .raw (.int .i64 c), .raw (.int .i64 im)] 40, jz] => match readInsC cols with
    | some C => some (.br (Nat.beq q q' && small q) (.one (.ret (.tup [])) [o, cE at_ (.lse 14 13 7 0 (q + 1)) lab J er, .no, .no, MP, j1, j2, j3, j4, j5, j6, insE op d n m a c im, jz, .no, .arr (.grow 13) (apI C q [op, d, n, m, a, c, im]).cols (q + 1) 40]) .no)
    | none => none
  | _, _ => none
theorem la_C1_ok {args : List V} {s : Sto} {a : Ans} (h : la_C1 args s = some a) (hf : a.fine) : CallOk Try.prog 33 args s fun r s' => a.is r s' := by
  unfold la_C1 at h
  split at h
  · split at h
    · rename_i hr
      cases h
      obtain rfl := readInsC_eq hr
      rcases hf with ⟨hb, _⟩ | ⟨_, hf⟩
      · have hb2 := hb
        simp only [Bool.and_eq_true] at hb2
        obtain rfl := Nat.eq_of_beq_eq_true hb2.1
        exact (lay_C1 (hq := hb2.2) ..).mono fun r s' h => .inl ⟨hb, h⟩
      · exact hf.elim
    · cases h
  · cases h
def la_D1 : List V → Sto → Option Ans := fun args s => match args, s with
  | [.ptr 1 0, .sl 10 0 1 1], [o, .own [.raw (.int .u64 at_), .lse 3 2 7 0 q, lab, J, er] 74, .no, .arr (.grow 2) cols q' 40, MP, j1, j2, j3, j4, j5, .own [.raw (.int .i64 op), .raw (.int .i64 d), .raw (.int .i64 n), .raw (.int .i64 m), .raw (.int .i64 a), .raw (.int .i64 c), .raw (.int .i64 im)] 40] => match readInsC cols with
    | some C => some (.br (Nat.beq q q' && small q) (.one (.ret (.tup [])) [o, cE at_ (.lse 12 11 7 0 (q + 1)) lab J er, .no, .no, MP, j1, j2, j3, j4, j5, insE op d n m a c im, .no, .arr (.grow 11) (apI C q [op, d, n, m, a, c, im]).cols (q + 1) 40]) .no)
    | none => none
  | _, _ => none
theorem la_D1_ok {args : List V} {s : Sto} {a : Ans} (h : la_D1 args s = some a) (hf : a.fine) : CallOk Try.prog 33 args s fun r s' => a.is r s' := by
  unfold la_D1 at h
  split at h
  · split at h
    · rename_i hr
      cases h
      obtain rfl := readInsC_eq hr
      rcases hf with ⟨hb, _⟩ | ⟨_, hf⟩
      · have hb2 := hb
        simp only [Bool.and_eq_true] at hb2
        obtain rfl := Nat.eq_of_beq_eq_true hb2.1
        exact (lay_D1 (hq := hb2.2) ..).mono fun r s' h => .inl ⟨hb, h⟩
      · exact hf.elim
    · cases h
  · cases h
def la_C2 : List V → Sto → Option Ans := fun args s => match args, s with
  | [.ptr 1 0, .sl 13 0 1 1], [o, .own [.raw (.int .u64 at_), .lse 12 11 7 0 q, lab, J, er] 74, .no, .no, MP, j1, j2, j3, j4, j5, j6, .no, .arr (.grow 11) cols q' 40, .own [.raw (.int .i64 op), .raw (.int .i64 d), .raw (.int .i64 n), .raw (.int .i64 m), .raw (.int .i64 a), .raw (.int .i64 c), .raw (.int .i64 im)] 40, jz] => match readInsC cols with
    | some C => some (.br (Nat.beq q q' && small q) (.one (.ret (.tup [])) [o, cE at_ (.lse 16 15 7 0 (q + 1)) lab J er, .no, .no, MP, j1, j2, j3, j4, j5, j6, .no, .no, insE op d n m a c im, jz, .no, .arr (.grow 15) (apI C q [op, d, n, m, a, c, im]).cols (q + 1) 40]) .no)
    | none => none
  | _, _ => none
theorem la_C2_ok {args : List V} {s : Sto} {a : Ans} (h : la_C2 args s = some a) (hf : a.fine) : CallOk Try.prog 33 args s fun r s' => a.is r s' := by
  unfold la_C2 at h
  split at h
  · split at h
    · rename_i hr
      cases h
      obtain rfl := readInsC_eq hr
      rcases hf with ⟨hb, _⟩ | ⟨_, hf⟩
      · have hb2 := hb
        simp only [Bool.and_eq_true] at hb2
        obtain rfl := Nat.eq_of_beq_eq_true hb2.1
        exact (lay_C2 (hq := hb2.2) ..).mono fun r s' h => .inl ⟨hb, h⟩
      · exact hf.elim
    · cases h
  · cases h
def layA : List V → Sto → Option Ans := fun args s => (match la_A1 args s with | some a => some a | none => (match la_B1 args s with | some a => some a | none => (match la_B2 args s with | some a => some a | none => (match la_C1 args s with | some a => some a | none => (match la_D1 args s with | some a => some a | none => (match la_C2 args s with | some a => some a | none => none))))))
theorem layA_ok {E : Eh} (hE : EOk Try.prog E) : EOk Try.prog (addE 33 layA E) := by
  refine addE_ok hE fun args s a h hf => ?_
  unfold layA at h
  split at h
  · rename_i h1; cases h; exact la_A1_ok h1 hf
  split at h
  · rename_i h1; cases h; exact la_B1_ok h1 hf
  split at h
  · rename_i h1; cases h; exact la_B2_ok h1 hf
  split at h
  · rename_i h1; cases h; exact la_C1_ok h1 hf
  split at h
  · rename_i h1; cases h; exact la_D1_ok h1 hf
  split at h
  · rename_i h1; cases h; exact la_C2_ok h1 hf
  cases h
end Go.Proofs.Ytalgegmcllcnmaa.labJumps
end
section
/- LabJumps: fill, at the stores where it is called. Printed by genfill.py. -/
set_option linter.unusedVariables false
set_option linter.unusedSimpArgs false
set_option maxRecDepth 1000000
namespace Go.Proofs.Ytalgegmcllcnmaa.labJumps
open Go Go.Proofs Go.Proofs.YtalgegmcllcnmaaRL Go.Proofs.Ytalgegmcllcnmaa.isa
noncomputable def EJ : Eh := addE 33 layA (specE 29 chkG noE)
theorem EJ_ok : EOk Try.prog EJ := layA_ok (chkG_ok noE_ok)
noncomputable abbrev cf : Code := codeOf Try.prog 28
noncomputable def pf : List Nat := pathTo 1 cf
def lvF : List Nat := [0,1,4]
abbrev opsE : Ent := .own [.raw (.int .i64 20), .raw (.int .i64 24), .raw (.int .i64 22), .raw (.int .i64 23), .raw (.int .i64 21)] 3
abbrev M0 : Ent := .map [] 0
abbrev M1 (A : Int) : Ent := .map [(.raw (.string ⟨#[120]⟩), .raw (.int .u64 A), 0)] 1
abbrev er0 : V := .raw (.int .i64 0)
abbrev at0 : Int := 1048576
abbrev jx (here n : Int) : Sto := [.no, .lst [.fn (.func 38) [] [.ptr 7 0, .ptr 8 0, .ptr 9 0, .ptr 10 0]] 45 5 1, .own [.ptr 1 0] 26, .own [.raw (.string ⟨#[120]⟩)] 9, .own [.raw (.int .u64 here)] 22, .own [.raw (.int .i64 n)] 3]
def SF (n i : Int) (s : Sto) : St := ⟨14, [(0, .ptr 1 0), (1, .raw (.int .i64 n)), (4, .raw (.int .i64 i))], s⟩
abbrev nopL : List Int := [1, 0, 0, 0, 0, 0, 0]
def sA (MP : Ent) : Sto := [opsE, cE at0 nilV (.mp 2) nilV er0, MP]
def sA1 (MP : Ent) (C : InsC) (q : Nat) : Sto := [opsE, cE at0 (.lse 4 3 7 0 q) (.mp 2) nilV er0, MP, .no, .arr (.grow 3) C.cols q 40]
def sB (MP : Ent) (C : InsC) (q : Nat) : Sto := [opsE, cE at0 (.lse 3 2 7 0 q) (.mp 4) nilV er0, .no, .arr (.grow 2) C.cols q 40, MP]
def sB2 (MP : Ent) (C : InsC) (q : Nat) : Sto := [opsE, cE at0 (.lse 6 5 7 0 q) (.mp 4) nilV er0, .no, .no, MP, .no, .arr (.grow 5) C.cols q 40]
def sC (h k : Int) (MP : Ent) (C : InsC) (q : Nat) : Sto := [opsE, cE at0 (.lse 3 2 7 0 q) (.mp 4) (.lst 6 5 0 0 1) er0, .no, .arr (.grow 2) C.cols q 40, MP] ++ jx h k
def sC2 (h k : Int) (MP : Ent) (C : InsC) (q : Nat) : Sto := [opsE, cE at0 (.lse 12 11 7 0 q) (.mp 4) (.lst 6 5 0 0 1) er0, .no, .no, MP] ++ jx h k ++ [.no, .arr (.grow 11) C.cols q 40]
def nxM (n i : Int) (q : Nat) (P X : Prop) : Prop := Br (decide (i < n)) (Br (Nat.beq q q && small q) P False) X
theorem aftF (b : Nat) (K : Ex → St → Prop) (st : St) : ctxK Try.prog b pf cf K (.exit 0) st = K .normal st := by kernel_rfl
theorem endF (n i : Int) (s : Sto) (K : Res → Sto → Prop) : bodyK False Try.prog (funcOf Try.prog 28) K .normal (SF n i s) = K (.ret (.tup [])) s := by kernel_rfl
section
variable (h k A n i : Int) (C : InsC) (q : Nat) (K : Ex → St → Prop) (Z : St → Prop)
theorem fA0_0 : evG Try.prog EJ 200 (lft (subAt pf cf)) (SF n i (sA M0)) (fun e st => K e (gcSt 3 lvF st)) = Br (decide (i < n)) (K .normal (SF n (w1 (i + 1)) (sA1 M0 (oneI nopL) 1))) (K (.exit 0) (SF n i (sA M0))) := by kernel_rfl
theorem pA0_0 (K : Ex → St → Prop) : evTo Try.prog EJ 200 3 (fun st => Z (gcSt 3 lvF st)) pf cf ⟨(funcOf Try.prog 28).ntmps, zipArgs 0 [.ptr 1 0, .raw (.int .i64 n)], sA M0⟩ K = Z (SF n 0 (sA M0)) := by kernel_rfl
theorem fA1_0 : evG Try.prog EJ 200 (lft (subAt pf cf)) (SF n i (sA1 M0 C q)) (fun e st => K e (gcSt 3 lvF st)) = nxM n i q (K .normal (SF n (w1 (i + 1)) (sA1 M0 (apI C q nopL) (q + 1)))) (K (.exit 0) (SF n i (sA1 M0 C q))) := by kernel_rfl
theorem fB0_0 : evG Try.prog EJ 200 (lft (subAt pf cf)) (SF n i (sB M0 C q)) (fun e st => K e (gcSt 5 lvF st)) = nxM n i q (K .normal (SF n (w1 (i + 1)) (sB2 M0 (apI C q nopL) (q + 1)))) (K (.exit 0) (SF n i (sB M0 C q))) := by kernel_rfl
theorem pB0_0 (K : Ex → St → Prop) : evTo Try.prog EJ 200 5 (fun st => Z (gcSt 5 lvF st)) pf cf ⟨(funcOf Try.prog 28).ntmps, zipArgs 0 [.ptr 1 0, .raw (.int .i64 n)], sB M0 C q⟩ K = Z (SF n 0 (sB M0 C q)) := by kernel_rfl
theorem fB1_0 : evG Try.prog EJ 200 (lft (subAt pf cf)) (SF n i (sB2 M0 C q)) (fun e st => K e (gcSt 5 lvF st)) = nxM n i q (K .normal (SF n (w1 (i + 1)) (sB2 M0 (apI C q nopL) (q + 1)))) (K (.exit 0) (SF n i (sB2 M0 C q))) := by kernel_rfl
theorem fC0_0 : evG Try.prog EJ 200 (lft (subAt pf cf)) (SF n i (sC h k M0 C q)) (fun e st => K e (gcSt 11 lvF st)) = nxM n i q (K .normal (SF n (w1 (i + 1)) (sC2 h k M0 (apI C q nopL) (q + 1)))) (K (.exit 0) (SF n i (sC h k M0 C q))) := by kernel_rfl
theorem pC0_0 (K : Ex → St → Prop) : evTo Try.prog EJ 200 11 (fun st => Z (gcSt 11 lvF st)) pf cf ⟨(funcOf Try.prog 28).ntmps, zipArgs 0 [.ptr 1 0, .raw (.int .i64 n)], sC h k M0 C q⟩ K = Z (SF n 0 (sC h k M0 C q)) := by kernel_rfl
theorem fC1_0 : evG Try.prog EJ 200 (lft (subAt pf cf)) (SF n i (sC2 h k M0 C q)) (fun e st => K e (gcSt 11 lvF st)) = nxM n i q (K .normal (SF n (w1 (i + 1)) (sC2 h k M0 (apI C q nopL) (q + 1)))) (K (.exit 0) (SF n i (sC2 h k M0 C q))) := by kernel_rfl
theorem fA0_1 : evG Try.prog EJ 200 (lft (subAt pf cf)) (SF n i (sA (M1 A))) (fun e st => K e (gcSt 3 lvF st)) = Br (decide (i < n)) (K .normal (SF n (w1 (i + 1)) (sA1 (M1 A) (oneI nopL) 1))) (K (.exit 0) (SF n i (sA (M1 A)))) := by kernel_rfl
theorem pA0_1 (K : Ex → St → Prop) : evTo Try.prog EJ 200 3 (fun st => Z (gcSt 3 lvF st)) pf cf ⟨(funcOf Try.prog 28).ntmps, zipArgs 0 [.ptr 1 0, .raw (.int .i64 n)], sA (M1 A)⟩ K = Z (SF n 0 (sA (M1 A))) := by kernel_rfl
theorem fA1_1 : evG Try.prog EJ 200 (lft (subAt pf cf)) (SF n i (sA1 (M1 A) C q)) (fun e st => K e (gcSt 3 lvF st)) = nxM n i q (K .normal (SF n (w1 (i + 1)) (sA1 (M1 A) (apI C q nopL) (q + 1)))) (K (.exit 0) (SF n i (sA1 (M1 A) C q))) := by kernel_rfl
theorem fB0_1 : evG Try.prog EJ 200 (lft (subAt pf cf)) (SF n i (sB (M1 A) C q)) (fun e st => K e (gcSt 5 lvF st)) = nxM n i q (K .normal (SF n (w1 (i + 1)) (sB2 (M1 A) (apI C q nopL) (q + 1)))) (K (.exit 0) (SF n i (sB (M1 A) C q))) := by kernel_rfl
theorem pB0_1 (K : Ex → St → Prop) : evTo Try.prog EJ 200 5 (fun st => Z (gcSt 5 lvF st)) pf cf ⟨(funcOf Try.prog 28).ntmps, zipArgs 0 [.ptr 1 0, .raw (.int .i64 n)], sB (M1 A) C q⟩ K = Z (SF n 0 (sB (M1 A) C q)) := by kernel_rfl
theorem fB1_1 : evG Try.prog EJ 200 (lft (subAt pf cf)) (SF n i (sB2 (M1 A) C q)) (fun e st => K e (gcSt 5 lvF st)) = nxM n i q (K .normal (SF n (w1 (i + 1)) (sB2 (M1 A) (apI C q nopL) (q + 1)))) (K (.exit 0) (SF n i (sB2 (M1 A) C q))) := by kernel_rfl
theorem fC0_1 : evG Try.prog EJ 200 (lft (subAt pf cf)) (SF n i (sC h k (M1 A) C q)) (fun e st => K e (gcSt 11 lvF st)) = nxM n i q (K .normal (SF n (w1 (i + 1)) (sC2 h k (M1 A) (apI C q nopL) (q + 1)))) (K (.exit 0) (SF n i (sC h k (M1 A) C q))) := by kernel_rfl
theorem pC0_1 (K : Ex → St → Prop) : evTo Try.prog EJ 200 11 (fun st => Z (gcSt 11 lvF st)) pf cf ⟨(funcOf Try.prog 28).ntmps, zipArgs 0 [.ptr 1 0, .raw (.int .i64 n)], sC h k (M1 A) C q⟩ K = Z (SF n 0 (sC h k (M1 A) C q)) := by kernel_rfl
theorem fC1_1 : evG Try.prog EJ 200 (lft (subAt pf cf)) (SF n i (sC2 h k (M1 A) C q)) (fun e st => K e (gcSt 11 lvF st)) = nxM n i q (K .normal (SF n (w1 (i + 1)) (sC2 h k (M1 A) (apI C q nopL) (q + 1)))) (K (.exit 0) (SF n i (sC2 h k (M1 A) C q))) := by kernel_rfl
end
end Go.Proofs.Ytalgegmcllcnmaa.labJumps
end
section
/- LabJumps: fill, at the stores where the law calls it: what it leaves. -/
set_option linter.unusedVariables false
set_option linter.unusedSimpArgs false
set_option maxRecDepth 100000
namespace Go.Proofs.Ytalgegmcllcnmaa.labJumps
open Go Go.Proofs Go.Proofs.YtalgegmcllcnmaaRL Go.Proofs.Ytalgegmcllcnmaa.isa
def rowI (C : InsC) (j : Nat) : List Int := [C.op j, C.d j, C.n j, C.m j, C.a j, C.c j, C.im j]
theorem ap_lt {f : Nat → Int} {n j : Nat} {w : Int} (h : j < n) : ap f n w j = f j := by
  show (match Nat.blt j n with | true => f j | false => _) = _
  rw [show Nat.blt j n = true from by rw [Nat.blt_eq]; exact h]
theorem ap_eq {f : Nat → Int} {n : Nat} {w : Int} : ap f n w n = w := by
  show (match Nat.blt n n with | true => f n | false => [w].getD (Nat.sub n n) 0) = _
  rw [show Nat.blt n n = false from by
    cases hb : Nat.blt n n with
    | true => rw [Nat.blt_eq] at hb; omega
    | false => rfl]
  show [w].getD (n - n) 0 = w
  rw [Nat.sub_self]; rfl
theorem row_lt {C : InsC} {n j : Nat} {i : List Int} (h : j < n) : rowI (apI C n i) j = rowI C j := by
  unfold rowI apI
  simp only [ap_lt h]
theorem row_at {C : InsC} {n : Nat} {a b c d e f g : Int} : rowI (apI C n [a, b, c, d, e, f, g]) n = [a, b, c, d, e, f, g] := by
  unfold rowI apI
  simp only [ap_eq]
  rfl
/-- The row C, and NOPs behind q, up to m. -/
def nops (C C' : InsC) (q m : Nat) : Prop := (∀ j, j < q → rowI C' j = rowI C j) ∧ ∀ j, q ≤ j → j < m → rowI C' j = nopL
theorem nops_refl (C : InsC) (q : Nat) : nops C C q q := ⟨fun _ _ => rfl, fun j h1 h2 => by omega⟩
theorem nops_next {C C' : InsC} {q m : Nat} (h : nops C C' q m) (hm : q ≤ m) : nops C (apI C' m nopL) q (m + 1) := by
  refine ⟨fun j hj => ?_, fun j h1 h2 => ?_⟩
  · rw [row_lt (by omega)]; exact h.1 j hj
  · by_cases hj : j < m
    · rw [row_lt hj]; exact h.2 j h1 hj
    · obtain rfl : j = m := by omega
      exact row_at
theorem nops_one (C : InsC) : nops C (oneI nopL) 0 1 := ⟨fun j hj => absurd hj (Nat.not_lt_zero j), fun j h1 h2 => by
  obtain rfl : j = 0 := by omega
  rfl⟩
theorem nxM_ok {n i : Int} {q : Nat} {P X : Prop} (hi : i < n) (hq : q + 1 ≤ 65536) (hp : P) : nxM n i q P X := by
  unfold nxM
  rw [decide_eq_true hi, show (Nat.beq q q && small q) = true from by rw [Nat.beq_refl, Bool.true_and]; exact Nat.ble_eq_true_of_le hq]
  exact hp
theorem nxM_no {n i : Int} {q : Nat} {P X : Prop} (hi : ¬ i < n) (hx : X) : nxM n i q P X := by
  unfold nxM
  rw [decide_eq_false hi]
  exact hx
section
variable {b : Nat} {s0 : Sto} {s1 : InsC → Nat → Sto} {C : InsC} {q n : Nat}
def KFl (s0 : Sto) (s1 : InsC → Nat → Sto) (C : InsC) (q n : Nat) (r : Res) (s' : Sto) : Prop := r = .ret (.tup []) ∧ ((n = 0 ∧ s' = s0) ∨ (0 < n ∧ ∃ C', nops C C' q (q + n) ∧ s' = s1 C' (q + n)))
theorem fill_of (hl : s0.length = b) (hq : q + n ≤ 60000)
    (pre : ∀ (K : Ex → St → Prop) (Z : St → Prop), evTo Try.prog EJ 200 b (fun st => Z (gcSt b lvF st)) pf cf ⟨(funcOf Try.prog 28).ntmps, zipArgs 0 [.ptr 1 0, .raw (.int .i64 (n : Int))], s0⟩ K = Z (SF n 0 s0))
    (r0 : ∀ K : Ex → St → Prop, (∀ C', 0 < n → nops C C' q (q + 1) → K .normal (SF n (w1 (((0 : Nat) : Int) + 1)) (s1 C' (q + 1)))) → (n = 0 → K (.exit 0) (SF n ((0 : Nat) : Int) s0)) → evG Try.prog EJ 200 (lft (subAt pf cf)) (SF n ((0 : Nat) : Int) s0) (fun e st => K e (gcSt b lvF st)))
    (r1 : ∀ (i : Int) (C : InsC) (q : Nat) (K : Ex → St → Prop), evG Try.prog EJ 200 (lft (subAt pf cf)) (SF n i (s1 C q)) (fun e st => K e (gcSt b lvF st)) = nxM n i q (K .normal (SF n (w1 (i + 1)) (s1 (apI C q nopL) (q + 1)))) (K (.exit 0) (SF n i (s1 C q)))) :
    CallOk Try.prog 28 [.ptr 1 0, .raw (.int .i64 (n : Int))] s0 (KFl s0 s1 C q n) := by
  refine CallOk.fnB names (by kernel_rfl) ?_
  rw [hl]
  refine evTo_ok EJ_ok names mixed (n := 200) (b := b) (Z := fun st => gcSt b lvF st = SF n ((0 : Nat) : Int) s0) pf _ _ _ (fun st hz => ?_) ?_
  · refine CodeB.lop (by kernel_rfl) (LoopB.byE EJ_ok names mixed (N := 200) (fun x : Option InsC × Nat => match x.1 with | none => SF n (x.2 : Int) s0 | some C' => SF n (x.2 : Int) (s1 C' (q + x.2))) (fun x => x.2 ≤ n ∧ match x.1 with | none => x.2 = 0 | some C' => 0 < x.2 ∧ nops C C' q (q + x.2)) (fun x => n - x.2) lvF (fun x hx => ?_) st (none, 0) (by have h := gc_tells b lvF st; rw [hz] at h; exact h) ⟨Nat.zero_le _, rfl⟩)
    obtain ⟨o, k⟩ := x
    cases o with
    | none =>
      obtain ⟨_, rfl⟩ : k ≤ n ∧ k = 0 := hx
      refine r0 _ (fun C' h0 hC => ?_) (fun hi => ?_)
      · rw [show w1 (((0 : Nat) : Int) + 1) = ((1 : Nat) : Int) from by unfold w1; rw [wrap_i64_in (by omega) (by omega)]; rfl]
        exact RK.go (K := fun _ _ => True) (y := (some C', 1)) rfl ⟨h0, Nat.zero_lt_one, hC⟩ (show n - 1 < n - 0 by omega)
      · show ctxK Try.prog b pf cf (bodyK False Try.prog (funcOf Try.prog 28) (KFl s0 s1 C q n)) (.exit 0) (SF n ((0 : Nat) : Int) s0)
        rw [aftF]
        exact (endF n _ s0 _).mpr ⟨rfl, .inl ⟨hi, rfl⟩⟩
    | some C' =>
      obtain ⟨hk, hk0, hC⟩ : k ≤ n ∧ 0 < k ∧ nops C C' q (q + k) := hx
      have hp := r1 (k : Int) C' (q + k) (RK b (fun x : Option InsC × Nat => match x.1 with | none => SF n (x.2 : Int) s0 | some C' => SF n (x.2 : Int) (s1 C' (q + x.2))) (fun x => x.2 ≤ n ∧ match x.1 with | none => x.2 = 0 | some C' => 0 < x.2 ∧ nops C C' q (q + x.2)) (fun x => n - x.2) (some C', k) (ctxK Try.prog b pf cf (bodyK False Try.prog (funcOf Try.prog 28) (KFl s0 s1 C q n))))
      refine hp.mpr ?_
      by_cases hlt : k < n
      · refine nxM_ok (by omega) (by omega) ?_
        rw [show w1 ((k : Int) + 1) = ((k + 1 : Nat) : Int) from by unfold w1; rw [wrap_i64_in (by omega) (by omega)]; rfl]
        exact RK.go (K := fun _ _ => True) (y := (some (apI C' (q + k) nopL), k + 1)) rfl ⟨hlt, Nat.succ_pos k, nops_next hC (by omega)⟩ (show n - (k + 1) < n - k by omega)
      · obtain rfl : k = n := by omega
        refine nxM_no (Int.lt_irrefl _) ?_
        show ctxK Try.prog b pf cf (bodyK False Try.prog (funcOf Try.prog 28) (KFl s0 s1 C q k)) (.exit 0) (SF k (k : Int) (s1 C' (q + k)))
        rw [aftF]
        exact (endF k _ (s1 C' (q + k)) _).mpr ⟨rfl, .inr ⟨hk0, C', hC, rfl⟩⟩
  · rw [pre _ fun st => st = SF n ((0 : Nat) : Int) s0]
    rfl
theorem r0_A {K : Ex → St → Prop} {n : Nat} {E P X : Prop} (he : E = Br (decide (((0 : Nat) : Int) < (n : Int))) P X) (h1 : 0 < n → P) (h2 : n = 0 → X) : E := by
  rw [he]
  rcases Nat.eq_zero_or_pos n with h | h
  · rw [decide_eq_false (by omega)]; exact h2 h
  · rw [decide_eq_true (by omega)]; exact h1 h
theorem r0_B {n q : Nat} {E P X : Prop} (he : E = nxM (n : Int) ((0 : Nat) : Int) q P X) (hq : q + 1 ≤ 65536) (h1 : 0 < n → P) (h2 : n = 0 → X) : E := by
  rw [he]
  rcases Nat.eq_zero_or_pos n with h | h
  · exact nxM_no (by omega) (h2 h)
  · exact nxM_ok (by omega) hq (h1 h)
end
theorem fill_A_0 (A : Int) (C : InsC) (n : Nat) (hn : n ≤ 60000) : CallOk Try.prog 28 [.ptr 1 0, .raw (.int .i64 (n : Int))] (sA M0) (KFl (sA M0) (fun C q => sA1 M0 C q) C 0 n) :=
  fill_of (b := 3) rfl (by omega) (fun K Z => pA0_0  n Z K) (fun K h1 h2 => r0_A (K := K) (fA0_0  n ((0 : Nat) : Int) K) (fun h => h1 _ h (nops_one C)) h2) fun i C q K => fA1_0  n i C q K
theorem fill_B_0 (A : Int) (C : InsC) (q n : Nat) (hn : q + n ≤ 60000) : CallOk Try.prog 28 [.ptr 1 0, .raw (.int .i64 (n : Int))] (sB M0 C q) (KFl (sB M0 C q) (fun C q => sB2 M0 C q) C q n) :=
  fill_of (b := 5) rfl hn (fun K Z => pB0_0  n C q Z K) (fun K h1 h2 => r0_B (fB0_0  n ((0 : Nat) : Int) C q K) (by omega) (fun h => h1 _ h (nops_next (nops_refl C q) (Nat.le_refl q))) h2) fun i C q K => fB1_0  n i C q K
theorem fill_C_0 (h k A : Int) (C : InsC) (q n : Nat) (hn : q + n ≤ 60000) : CallOk Try.prog 28 [.ptr 1 0, .raw (.int .i64 (n : Int))] (sC h k M0 C q) (KFl (sC h k M0 C q) (fun C q => sC2 h k M0 C q) C q n) :=
  fill_of (b := 11) rfl hn (fun K Z => pC0_0 h k  n C q Z K) (fun K h1 h2 => r0_B (fC0_0 h k  n ((0 : Nat) : Int) C q K) (by omega) (fun h => h1 _ h (nops_next (nops_refl C q) (Nat.le_refl q))) h2) fun i C q K => fC1_0 h k  n i C q K
theorem fill_A_1 (A : Int) (C : InsC) (n : Nat) (hn : n ≤ 60000) : CallOk Try.prog 28 [.ptr 1 0, .raw (.int .i64 (n : Int))] (sA (M1 A)) (KFl (sA (M1 A)) (fun C q => sA1 (M1 A) C q) C 0 n) :=
  fill_of (b := 3) rfl (by omega) (fun K Z => pA0_1 A n Z K) (fun K h1 h2 => r0_A (K := K) (fA0_1 A n ((0 : Nat) : Int) K) (fun h => h1 _ h (nops_one C)) h2) fun i C q K => fA1_1 A n i C q K
theorem fill_B_1 (A : Int) (C : InsC) (q n : Nat) (hn : q + n ≤ 60000) : CallOk Try.prog 28 [.ptr 1 0, .raw (.int .i64 (n : Int))] (sB (M1 A) C q) (KFl (sB (M1 A) C q) (fun C q => sB2 (M1 A) C q) C q n) :=
  fill_of (b := 5) rfl hn (fun K Z => pB0_1 A n C q Z K) (fun K h1 h2 => r0_B (fB0_1 A n ((0 : Nat) : Int) C q K) (by omega) (fun h => h1 _ h (nops_next (nops_refl C q) (Nat.le_refl q))) h2) fun i C q K => fB1_1 A n i C q K
theorem fill_C_1 (h k A : Int) (C : InsC) (q n : Nat) (hn : q + n ≤ 60000) : CallOk Try.prog 28 [.ptr 1 0, .raw (.int .i64 (n : Int))] (sC h k (M1 A) C q) (KFl (sC h k (M1 A) C q) (fun C q => sC2 h k (M1 A) C q) C q n) :=
  fill_of (b := 11) rfl hn (fun K Z => pC0_1 h k A n C q Z K) (fun K h1 h2 => r0_B (fC0_1 h k A n ((0 : Nat) : Int) C q K) (by omega) (fun h => h1 _ h (nops_next (nops_refl C q) (Nat.le_refl q))) h2) fun i C q K => fC1_1 h k A n i C q K
end Go.Proofs.Ytalgegmcllcnmaa.labJumps
end
section
/- LabJumps: fill as a table's line. Printed by genfillt.py. -/
set_option linter.unusedVariables false
set_option linter.unusedSimpArgs false
set_option maxRecDepth 1000000
namespace Go.Proofs.Ytalgegmcllcnmaa.labJumps
open Go Go.Proofs Go.Proofs.YtalgegmcllcnmaaRL Go.Proofs.Ytalgegmcllcnmaa.isa
abbrev cut1 (f : Nat → Int) (q : Nat) (w : Int) : Nat → Int := fun j => match Nat.blt j q with
  | true => f j
  | false => w
/-- The row C up to q, NOPs behind. -/
def nopC (C : InsC) (q : Nat) : InsC := ⟨cut1 C.op q 1, cut1 C.d q 0, cut1 C.n q 0, cut1 C.m q 0, cut1 C.a q 0, cut1 C.c q 0, cut1 C.im q 0⟩
theorem nop_lt {C : InsC} {q j : Nat} (h : j < q) : rowI (nopC C q) j = rowI C j := by
  have e (f : Nat → Int) (w : Int) : cut1 f q w j = f j := by
    show (match Nat.blt j q with | true => f j | false => w) = _
    rw [show Nat.blt j q = true from by rw [Nat.blt_eq]; exact h]
  unfold rowI nopC
  simp only [e]
theorem nop_ge {C : InsC} {q j : Nat} (h : q ≤ j) : rowI (nopC C q) j = nopL := by
  have e (f : Nat → Int) (w : Int) : cut1 f q w j = w := by
    show (match Nat.blt j q with | true => f j | false => w) = _
    rw [show Nat.blt j q = false from by
      cases hb : Nat.blt j q with
      | true => rw [Nat.blt_eq] at hb; omega
      | false => rfl]
  unfold rowI nopC
  simp only [e]
theorem nops_eqv {C C' : InsC} {q m : Nat} (h : nops C C' q m) (i : Nat) : Ent.eqv (.arr (.grow i) C'.cols m 40) (.arr (.grow i) (nopC C q).cols m 40) := by
  have key : ∀ j, j < m → rowI C' j = rowI (nopC C q) j := fun j hj => by
    by_cases hq : j < q
    · rw [h.1 j hq, nop_lt hq]
    · rw [h.2 j (by omega) hj, nop_ge (by omega)]
  have k2 : ∀ j, j < m → C'.op j = (nopC C q).op j ∧ C'.d j = (nopC C q).d j ∧ C'.n j = (nopC C q).n j ∧ C'.m j = (nopC C q).m j ∧ C'.a j = (nopC C q).a j ∧ C'.c j = (nopC C q).c j ∧ C'.im j = (nopC C q).im j := fun j hj => by
    have := key j hj
    unfold rowI at this
    simp only [List.cons.injEq, and_true] at this
    exact this
  exact .inr ⟨rfl, .inl rfl, rfl, ⟨rfl, fun j hj => (k2 j hj).1⟩, ⟨rfl, fun j hj => (k2 j hj).2.1⟩, ⟨rfl, fun j hj => (k2 j hj).2.2.1⟩, ⟨rfl, fun j hj => (k2 j hj).2.2.2.1⟩, ⟨rfl, fun j hj => (k2 j hj).2.2.2.2.1⟩, ⟨rfl, fun j hj => (k2 j hj).2.2.2.2.2.1⟩, ⟨rfl, fun j hj => (k2 j hj).2.2.2.2.2.2⟩, trivial⟩
theorem sto_refl : ∀ s : Sto, stoEqv s s
  | [] => trivial
  | e :: s => ⟨.inl rfl, sto_refl s⟩
def fillAns (n : Int) (q : Nat) (ok : Bool) (s : Sto) (s1 : Nat → Sto) : Ans := .br (ok && decide (0 ≤ n ∧ n ≤ 3000 ∧ q ≤ 40000)) (.br (decide (n = 0)) (.one (.ret (.tup [])) s) (.one (.ret (.tup [])) (s1 (q + n.toNat)))) .no
theorem fill_ans {n : Int} {q : Nat} {ok : Bool} {C : InsC} {s0 : Sto} {s1 : InsC → Nat → Sto} (hs : ∀ C C' m, nops C C' q m → stoEqv (s1 C' m) (s1 (nopC C q) m))
    (h : ok = true → ∀ k : Nat, q + k ≤ 60000 → CallOk Try.prog 28 [.ptr 1 0, .raw (.int .i64 (k : Int))] s0 (KFl s0 s1 C q k)) (hf : (fillAns n q ok s0 (s1 (nopC C q))).fine) :
    CallOk Try.prog 28 [.ptr 1 0, .raw (.int .i64 n)] s0 fun r s' => (fillAns n q ok s0 (s1 (nopC C q))).is r s' := by
  rcases hf with ⟨hb, _⟩ | ⟨_, hf⟩
  · have hb2 := hb
    rw [Bool.and_eq_true, decide_eq_true_eq] at hb2
    obtain ⟨h1, h2, h3, h4⟩ := hb2
    obtain ⟨k, rfl⟩ := Int.eq_ofNat_of_zero_le h2
    refine CallOk.eqv ((h h1 k (by omega)).mono fun r s' hk => ?_)
    obtain ⟨rfl, ⟨hk0, rfl⟩ | ⟨hk0, C', hC, rfl⟩⟩ := hk
    · exact ⟨_, sto_refl _, .inl ⟨hb, .inl ⟨decide_eq_true (by omega), rfl, rfl⟩⟩⟩
    · exact ⟨_, hs C C' _ hC, .inl ⟨hb, .inr ⟨decide_eq_false (by omega), rfl, rfl⟩⟩⟩
  · exact hf.elim
abbrev zC : InsC := ⟨fun _ => 0, fun _ => 0, fun _ => 0, fun _ => 0, fun _ => 0, fun _ => 0, fun _ => 0⟩
def eqX (b : ByteArray) : Bool := match b.data.toList with
  | [x] => Nat.beq x.toNat 120
  | _ => false
theorem eqX_eq {b : ByteArray} (h : eqX b = true) : b = ⟨#[120]⟩ := by
  unfold eqX at h
  split at h
  · rename_i x hx
    cases b with
    | mk d =>
      have h2 : x = 120 := UInt8.toNat_inj.1 (Nat.eq_of_beq_eq_true h)
      subst h2
      have h3 : d.toList = [120] := hx
      have h4 : d = #[120] := by
        apply Array.toList_inj.1
        exact h3
      rw [h4]
  · cases h
def ft_A_0 : List V → Sto → Option Ans := fun args s => match args, s with
  | [.ptr 1 0, .raw (.int .i64 n)], [.own [.raw (.int .i64 a1), .raw (.int .i64 a2), .raw (.int .i64 a3), .raw (.int .i64 a4), .raw (.int .i64 a5)] 3, .own [.raw (.int .u64 at_), .raw (.slice none 0 0), .mp 2, .raw (.slice none 0 0), .raw (.int .i64 er)] 74, .map [] 0] => some (fillAns n 0 (decide (a1 = 20 ∧ a2 = 24 ∧ a3 = 22 ∧ a4 = 23 ∧ a5 = 21 ∧ at_ = 1048576 ∧ er = 0)) (sA M0) ((fun C q => sA1 M0 C q) (nopC zC 0)))
  | _, _ => none
def ft_B_0 : List V → Sto → Option Ans := fun args s => match args, s with
  | [.ptr 1 0, .raw (.int .i64 n)], [.own [.raw (.int .i64 a1), .raw (.int .i64 a2), .raw (.int .i64 a3), .raw (.int .i64 a4), .raw (.int .i64 a5)] 3, .own [.raw (.int .u64 at_), .lse 3 2 7 0 q, .mp 4, .raw (.slice none 0 0), .raw (.int .i64 er)] 74, .no, .arr (.grow 2) cols q' 40, .map [] 0] => match readInsC cols with
    | some C => some (fillAns n q (decide (a1 = 20 ∧ a2 = 24 ∧ a3 = 22 ∧ a4 = 23 ∧ a5 = 21 ∧ at_ = 1048576 ∧ er = 0) && Nat.beq q q') (sB M0 C q) ((fun C q => sB2 M0 C q) (nopC C q)))
    | none => none
  | _, _ => none
def ft_C_0 : List V → Sto → Option Ans := fun args s => match args, s with
  | [.ptr 1 0, .raw (.int .i64 n)], [.own [.raw (.int .i64 a1), .raw (.int .i64 a2), .raw (.int .i64 a3), .raw (.int .i64 a4), .raw (.int .i64 a5)] 3, .own [.raw (.int .u64 at_), .lse 3 2 7 0 q, .mp 4, .lst 6 5 0 0 1, .raw (.int .i64 er)] 74, .no, .arr (.grow 2) cols q' 40, .map [] 0, .no, .lst [.fn (.func fj) [] [.ptr 7 0, .ptr 8 0, .ptr 9 0, .ptr 10 0]] 45 5 1, .own [.ptr 1 0] 26, .own [.raw (.string nm)] 9, .own [.raw (.int .u64 h)] 22, .own [.raw (.int .i64 k)] 3] => match readInsC cols with
    | some C => some (fillAns n q (decide (a1 = 20 ∧ a2 = 24 ∧ a3 = 22 ∧ a4 = 23 ∧ a5 = 21 ∧ at_ = 1048576 ∧ er = 0) && Nat.beq q q' && (Nat.beq fj 38 && eqX nm)) (sC h k M0 C q) ((fun C q => sC2 h k M0 C q) (nopC C q)))
    | none => none
  | _, _ => none
def ft_A_1 : List V → Sto → Option Ans := fun args s => match args, s with
  | [.ptr 1 0, .raw (.int .i64 n)], [.own [.raw (.int .i64 a1), .raw (.int .i64 a2), .raw (.int .i64 a3), .raw (.int .i64 a4), .raw (.int .i64 a5)] 3, .own [.raw (.int .u64 at_), .raw (.slice none 0 0), .mp 2, .raw (.slice none 0 0), .raw (.int .i64 er)] 74, .map [(.raw (.string kx), .raw (.int .u64 A), 0)] 1] => some (fillAns n 0 (decide (a1 = 20 ∧ a2 = 24 ∧ a3 = 22 ∧ a4 = 23 ∧ a5 = 21 ∧ at_ = 1048576 ∧ er = 0) && eqX kx) (sA (M1 A)) ((fun C q => sA1 (M1 A) C q) (nopC zC 0)))
  | _, _ => none
def ft_B_1 : List V → Sto → Option Ans := fun args s => match args, s with
  | [.ptr 1 0, .raw (.int .i64 n)], [.own [.raw (.int .i64 a1), .raw (.int .i64 a2), .raw (.int .i64 a3), .raw (.int .i64 a4), .raw (.int .i64 a5)] 3, .own [.raw (.int .u64 at_), .lse 3 2 7 0 q, .mp 4, .raw (.slice none 0 0), .raw (.int .i64 er)] 74, .no, .arr (.grow 2) cols q' 40, .map [(.raw (.string kx), .raw (.int .u64 A), 0)] 1] => match readInsC cols with
    | some C => some (fillAns n q (decide (a1 = 20 ∧ a2 = 24 ∧ a3 = 22 ∧ a4 = 23 ∧ a5 = 21 ∧ at_ = 1048576 ∧ er = 0) && Nat.beq q q' && eqX kx) (sB (M1 A) C q) ((fun C q => sB2 (M1 A) C q) (nopC C q)))
    | none => none
  | _, _ => none
def ft_C_1 : List V → Sto → Option Ans := fun args s => match args, s with
  | [.ptr 1 0, .raw (.int .i64 n)], [.own [.raw (.int .i64 a1), .raw (.int .i64 a2), .raw (.int .i64 a3), .raw (.int .i64 a4), .raw (.int .i64 a5)] 3, .own [.raw (.int .u64 at_), .lse 3 2 7 0 q, .mp 4, .lst 6 5 0 0 1, .raw (.int .i64 er)] 74, .no, .arr (.grow 2) cols q' 40, .map [(.raw (.string kx), .raw (.int .u64 A), 0)] 1, .no, .lst [.fn (.func fj) [] [.ptr 7 0, .ptr 8 0, .ptr 9 0, .ptr 10 0]] 45 5 1, .own [.ptr 1 0] 26, .own [.raw (.string nm)] 9, .own [.raw (.int .u64 h)] 22, .own [.raw (.int .i64 k)] 3] => match readInsC cols with
    | some C => some (fillAns n q (decide (a1 = 20 ∧ a2 = 24 ∧ a3 = 22 ∧ a4 = 23 ∧ a5 = 21 ∧ at_ = 1048576 ∧ er = 0) && Nat.beq q q' && (Nat.beq fj 38 && eqX nm) && eqX kx) (sC h k (M1 A) C q) ((fun C q => sC2 h k (M1 A) C q) (nopC C q)))
    | none => none
  | _, _ => none
theorem fine_ok {n : Int} {q : Nat} {ok : Bool} {s : Sto} {s1 : Nat → Sto} (h : (fillAns n q ok s s1).fine) : ok = true := by
  rcases h with ⟨h, _⟩ | ⟨_, h⟩
  · rw [Bool.and_eq_true] at h; exact h.1
  · exact h.elim
theorem ft_A_0_ok {args : List V} {s : Sto} {a : Ans} (h : ft_A_0 args s = some a) (hf : a.fine) : CallOk Try.prog 28 args s fun r s' => a.is r s' := by
  unfold ft_A_0 at h
  split at h
  · cases h
    have hok := fine_ok hf
    simp only [Bool.and_eq_true, decide_eq_true_eq] at hok
    obtain ⟨rfl, rfl, rfl, rfl, rfl, rfl, rfl⟩ := hok
    exact fill_ans (fun C C' m hn => ⟨.inl rfl, .inl rfl, .inl rfl, .inl rfl, nops_eqv hn 3, trivial⟩) (fun _ k2 hk2 => fill_A_0 0 zC k2 (by omega)) hf
  · cases h
theorem ft_B_0_ok {args : List V} {s : Sto} {a : Ans} (h : ft_B_0 args s = some a) (hf : a.fine) : CallOk Try.prog 28 args s fun r s' => a.is r s' := by
  unfold ft_B_0 at h
  split at h
  · split at h
    · rename_i hr
      cases h
      obtain rfl := readInsC_eq hr
      have hok := fine_ok hf
      simp only [Bool.and_eq_true, decide_eq_true_eq] at hok
      obtain ⟨⟨rfl, rfl, rfl, rfl, rfl, rfl, rfl⟩, hq⟩ := hok
      obtain rfl := Nat.eq_of_beq_eq_true hq
      exact fill_ans (fun C C' m hn => ⟨.inl rfl, .inl rfl, .inl rfl, .inl rfl, .inl rfl, .inl rfl, nops_eqv hn 5, trivial⟩) (fun _ k2 hk2 => fill_B_0 0 _ _ k2 hk2) hf
    · cases h
  · cases h
theorem ft_C_0_ok {args : List V} {s : Sto} {a : Ans} (h : ft_C_0 args s = some a) (hf : a.fine) : CallOk Try.prog 28 args s fun r s' => a.is r s' := by
  unfold ft_C_0 at h
  split at h
  · split at h
    · rename_i hr
      cases h
      obtain rfl := readInsC_eq hr
      have hok := fine_ok hf
      simp only [Bool.and_eq_true, decide_eq_true_eq] at hok
      obtain ⟨⟨⟨rfl, rfl, rfl, rfl, rfl, rfl, rfl⟩, hq⟩, ⟨hj, hx⟩⟩ := hok
      obtain rfl := Nat.eq_of_beq_eq_true hq
      obtain rfl := Nat.eq_of_beq_eq_true hj
      obtain rfl := eqX_eq hx
      exact fill_ans (fun C C' m hn => ⟨.inl rfl, .inl rfl, .inl rfl, .inl rfl, .inl rfl, .inl rfl, .inl rfl, .inl rfl, .inl rfl, .inl rfl, .inl rfl, .inl rfl, nops_eqv hn 11, trivial⟩) (fun _ k2 hk2 => fill_C_0 _ _ 0 _ _ k2 hk2) hf
    · cases h
  · cases h
theorem ft_A_1_ok {args : List V} {s : Sto} {a : Ans} (h : ft_A_1 args s = some a) (hf : a.fine) : CallOk Try.prog 28 args s fun r s' => a.is r s' := by
  unfold ft_A_1 at h
  split at h
  · cases h
    have hok := fine_ok hf
    simp only [Bool.and_eq_true, decide_eq_true_eq] at hok
    obtain ⟨⟨rfl, rfl, rfl, rfl, rfl, rfl, rfl⟩, hk⟩ := hok
    obtain rfl := eqX_eq hk
    exact fill_ans (fun C C' m hn => ⟨.inl rfl, .inl rfl, .inl rfl, .inl rfl, nops_eqv hn 3, trivial⟩) (fun _ k2 hk2 => fill_A_1 _ zC k2 (by omega)) hf
  · cases h
theorem ft_B_1_ok {args : List V} {s : Sto} {a : Ans} (h : ft_B_1 args s = some a) (hf : a.fine) : CallOk Try.prog 28 args s fun r s' => a.is r s' := by
  unfold ft_B_1 at h
  split at h
  · split at h
    · rename_i hr
      cases h
      obtain rfl := readInsC_eq hr
      have hok := fine_ok hf
      simp only [Bool.and_eq_true, decide_eq_true_eq] at hok
      obtain ⟨⟨⟨rfl, rfl, rfl, rfl, rfl, rfl, rfl⟩, hq⟩, hk⟩ := hok
      obtain rfl := Nat.eq_of_beq_eq_true hq
      obtain rfl := eqX_eq hk
      exact fill_ans (fun C C' m hn => ⟨.inl rfl, .inl rfl, .inl rfl, .inl rfl, .inl rfl, .inl rfl, nops_eqv hn 5, trivial⟩) (fun _ k2 hk2 => fill_B_1 _ _ _ k2 hk2) hf
    · cases h
  · cases h
theorem ft_C_1_ok {args : List V} {s : Sto} {a : Ans} (h : ft_C_1 args s = some a) (hf : a.fine) : CallOk Try.prog 28 args s fun r s' => a.is r s' := by
  unfold ft_C_1 at h
  split at h
  · split at h
    · rename_i hr
      cases h
      obtain rfl := readInsC_eq hr
      have hok := fine_ok hf
      simp only [Bool.and_eq_true, decide_eq_true_eq] at hok
      obtain ⟨⟨⟨⟨rfl, rfl, rfl, rfl, rfl, rfl, rfl⟩, hq⟩, ⟨hj, hx⟩⟩, hk⟩ := hok
      obtain rfl := Nat.eq_of_beq_eq_true hq
      obtain rfl := Nat.eq_of_beq_eq_true hj
      obtain rfl := eqX_eq hx
      obtain rfl := eqX_eq hk
      exact fill_ans (fun C C' m hn => ⟨.inl rfl, .inl rfl, .inl rfl, .inl rfl, .inl rfl, .inl rfl, .inl rfl, .inl rfl, .inl rfl, .inl rfl, .inl rfl, .inl rfl, nops_eqv hn 11, trivial⟩) (fun _ k2 hk2 => fill_C_1 _ _ _ _ _ k2 hk2) hf
    · cases h
  · cases h
def fillT : List V → Sto → Option Ans := fun args s => (match ft_A_0 args s with | some a => some a | none => (match ft_B_0 args s with | some a => some a | none => (match ft_C_0 args s with | some a => some a | none => (match ft_A_1 args s with | some a => some a | none => (match ft_B_1 args s with | some a => some a | none => (match ft_C_1 args s with | some a => some a | none => none))))))
theorem fillT_ok {E : Eh} (hE : EOk Try.prog E) : EOk Try.prog (addE 28 fillT E) := by
  refine addE_ok hE fun args s a h hf => ?_
  unfold fillT at h
  split at h
  · rename_i h1; cases h; exact ft_A_0_ok h1 hf
  split at h
  · rename_i h1; cases h; exact ft_B_0_ok h1 hf
  split at h
  · rename_i h1; cases h; exact ft_C_0_ok h1 hf
  split at h
  · rename_i h1; cases h; exact ft_A_1_ok h1 hf
  split at h
  · rename_i h1; cases h; exact ft_B_1_ok h1 hf
  split at h
  · rename_i h1; cases h; exact ft_C_1_ok h1 hf
  cases h
end Go.Proofs.Ytalgegmcllcnmaa.labJumps
end
