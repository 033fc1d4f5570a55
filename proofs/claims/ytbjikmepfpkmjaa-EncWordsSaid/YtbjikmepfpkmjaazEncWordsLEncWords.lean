/- EncWords: whatever the instruction and the number: the law returns true. No condition. -/
import Derived.Test.YtbjikmepfpkmjaaRows
import Derived.Test.YtbjikmepfpkmjaazEncWordsQx12
import Derived.Test.YtbjikmepfpkmjaazEncWordsR
namespace Go.Proofs.Ytbjikmepfpkmjaa.encWords
set_option linter.unusedVariables false
set_option linter.unusedSimpArgs false
open Go.ChangeShapes Go.WideShapes Go.ChangeAt Go.RowKit Go.Proofs.YtbjikmepfpkmjaaR Go.Proofs.Ytbjikmepfpkmjaa.Q Go.Proofs.Ytbjikmepfpkmjaa.X Go.Proofs.YtbjikmepfpkmjaaW.PrintWords
theorem word_total (op d n m a c imm : Int) : ∃ w e, enc_Word.f op d n m a c imm = some (w, e) := by
  by_cases ho : op < 0 ∨ 42 < op
  · have hk := chk_out op d n m a c imm 0 ho
    rw [Nat.zero_add] at hk
    exact ⟨0, 1, word_bad' hk⟩
  · exact word_some op d n m a c imm (by omega) (by omega)
theorem base_eq (op : Int) : brazierref3_Base.f op = if op < 0 then some 0 else if op ≥ (43 : Int) then some 0 else if 0 ≤ op then (if op < (43 : Int) then some (rd baseL op) else none) else none := by kernel_rfl
theorem base_total (op : Int) : ∃ b, enc_Base.f op = some b ∧ brazierref3_Base.f op = some b := by
  by_cases h0 : op < 0
  · refine ⟨0, by unfold enc_Base.f; rw [if_pos h0], ?_⟩
    rw [base_eq, if_pos h0]
  by_cases h1 : op > 42
  · refine ⟨0, by unfold enc_Base.f; rw [if_neg h0, if_pos h1], ?_⟩
    rw [base_eq, if_neg h0, if_pos (show op ≥ 43 by omega)]
  refine ⟨rd baseL op, by unfold enc_Base.f; rw [if_neg h0, if_neg h1], ?_⟩
  rw [base_eq, if_neg h0, if_neg (show ¬ op ≥ 43 by omega), if_pos (by omega), if_pos (show op < 43 by omega)]
theorem known_true : brazierlaw3_known.f = some true := by kernel_rfl
theorem pure (op d n m a c imm b : Int) : brazierlaw3_EncWords.f op d n m a c imm b = some true := by
  obtain ⟨w, e, hw⟩ := word_total op d n m a c imm
  have hw2 : brazierref3_Word.f op d n m a c imm = some (w, e) := hw
  obtain ⟨x, h1, h2⟩ := base_total b
  unfold brazierlaw3_EncWords.f
  rw [known_true, Option.bind_some, if_pos rfl, hw, Option.bind_some, hw2, Option.bind_some, if_pos rfl, if_pos rfl, h1, Option.bind_some, h2, Option.bind_some]
  simp
theorem own : ownKnob Try.prog.godebug = none := by kernel_rfl
theorem laidOut : laidOutB Try.prog = true := by kernel_rfl
theorem oIns : ∃ G, Opens Try.prog 23 (Kd.pair (Kd.int .i64) (Kd.pair (Kd.int .i64) (Kd.pair (Kd.int .i64) (Kd.pair (Kd.int .i64) (Kd.pair (Kd.int .i64) (Kd.pair (Kd.int .i64) (Kd.int .i64))))))) G :=
  ⟨_, Opens.struct Try.underlying23 (OpensAt.cons (Opens.int Try.underlying3) rfl (by kernel_rfl) (OpensAt.cons (Opens.int Try.underlying3) rfl (by kernel_rfl) (OpensAt.cons (Opens.int Try.underlying3) rfl (by kernel_rfl) (OpensAt.cons (Opens.int Try.underlying3) rfl (by kernel_rfl) (OpensAt.cons (Opens.int Try.underlying3) rfl (by kernel_rfl) (OpensAt.cons (Opens.int Try.underlying3) rfl (by kernel_rfl) (OpensAt.one (Opens.int Try.underlying2) rfl (by kernel_rfl)))))))) (by kernel_rfl)⟩
set_option maxRecDepth 100000 in
theorem lifted (os : Os) (started : os.Started) (H : Type) (enc : TypeId × Value → H) :
    ReturnsInHanded {} Try.checked os 3 .any (Rows.encWordsSpec.pre6 enc Try.prog Try.f3 Rows.encWordsRow.domain false) (Rows.encWordsSpec.post enc Try.prog Try.f3 false true false false) := by
  refine law_lifted (C := Try.checked) (rt := 4) own started (by kernel_rfl) Try.func3 laidOut (by kernel_rfl) rfl Try.underlying4 rfl (fun ds hds => ?_)
    (ChangeSpec.witness6 (enc := enc) (C := Try.checked) false ⟨#[], #[.agg #[.int .i64 0, .int .i64 0, .int .i64 0, .int .i64 0, .int .i64 0, .int .i64 0, .int .i64 0], .int .i64 0], []⟩ 8 (by kernel_rfl) (by kernel_rfl) (by kernel_rfl) (by kernel_rfl)) ?_
  · have hds' : ds.length = 2 := hds
    match ds, hds' with
    | [d1, d2], _ => rfl
  intro W base args ds p hval0 hA0 hsz0
  have hval : ∀ (j : Nat) t v, Try.f3.params[j]? = some t → args[j]? = some v → Value.okWide Try.prog W .any base t v := hval0
  have hA : DataW.TrodAll enc Try.prog W 0 (fun _ => true) true Try.f3.params.toList args.toList ds p := hA0
  clear hval0 hA0 hsz0
  rw [Try.params3] at hA hval
  obtain ⟨v0, vs0, d0, ds0, p0, q0, hargs, rfl, rfl, h0, r0⟩ := trodAll_cons hA
  obtain ⟨v1, vs1, d1, ds1, p1, q1, rfl, rfl, rfl, h1, r1⟩ := trodAll_cons r0
  obtain ⟨rfl, rfl, rfl⟩ := trodAll_nil r1
  obtain rfl : args = #[v0, v1] := by cases args; simp_all
  obtain ⟨G, oI⟩ := oIns
  obtain ⟨x0, cs0, rfl, k0, _⟩ := oI.arg_struct Try.underlying23 (hval 0 23 v0 rfl rfl) h0
  obtain ⟨_, _, rfl, rfl, _, _, rfl, rfl, _, _, rfl, rfl, _, _, rfl, rfl, _, _, rfl, rfl, _, _, rfl, rfl, rfl⟩ := k0
  obtain ⟨a1, rfl, rfl, rfl, _⟩ := open_int Try.underlying3 (hval 1 3 v1 rfl rfl) h1
  exact brazierlaw3_EncWords.calls x0.1 x0.2.1 x0.2.2.1 x0.2.2.2.1 x0.2.2.2.2.1 x0.2.2.2.2.2.1 x0.2.2.2.2.2.2 a1 true W (pure ..)
theorem over : Rows.encWordsRow.holds Try.pinned (OpenSpec.ofChange Rows.encWordsSpec) :=
  OpenClaim.holds_of_wide 3 Try.f3 rfl rfl rfl rfl rfl rfl rfl ⟨rfl, rfl, rfl, rfl, rfl⟩ rfl rfl rfl rfl rfl (by kernel_rfl) Try.func3 (by kernel_rfl)
    (of_decide_eq_true (by kernel_rfl)) (by unfold Func.isWrapper; first | (rw [if_pos (by decide +kernel)]; kernel_rfl) | (rw [if_neg (by decide +kernel)]; exact ⟨rfl, rfl⟩))
    (fun os started H enc _ => lifted os started H enc)
theorem proved : Rows.EncWordsSaid := over
#print axioms proved
end Go.Proofs.Ytbjikmepfpkmjaa.encWords
namespace Go.Proofs.Ytbjikmepfpkmjaa
/-- The row, under a short name, for the claim. -/
theorem encWords_holds : Rows.EncWordsSaid := encWords.proved
end Go.Proofs.Ytbjikmepfpkmjaa
