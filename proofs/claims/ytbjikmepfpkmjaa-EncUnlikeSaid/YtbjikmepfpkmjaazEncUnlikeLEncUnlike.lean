/- EncUnlike: whatever the two instructions: the law returns true. No condition. -/
import Derived.Test.YtbjikmepfpkmjaaRows
import Derived.Test.YtbjikmepfpkmjaazEncUnlikeQx12
import Derived.Test.YtbjikmepfpkmjaazEncUnlikePDec
import Derived.Test.YtbjikmepfpkmjaazEncUnlikeLEncWords
import Derived.Test.YtbjikmepfpkmjaazEncUnlikeR
namespace Go.Proofs.Ytbjikmepfpkmjaa.encUnlike
set_option linter.unusedVariables false
set_option linter.unusedSimpArgs false
open Go.ChangeShapes Go.WideShapes Go.ChangeAt Go.RowKit Go.Proofs.YtbjikmepfpkmjaaR Go.Proofs.Ytbjikmepfpkmjaa.Q Go.Proofs.Ytbjikmepfpkmjaa.X Go.Proofs.YtbjikmepfpkmjaaW.PrintWords
open Go.Proofs.Ytbjikmepfpkmjaa.encWords (word_total known_true own laidOut oIns)
theorem check_total (op d n m a c imm : Int) : ∃ e, a64_Check.f 40 op d n m a c imm = some e ∧ (e = 0 → ∃ w, enc_Word.f op d n m a c imm = some (w, 0)) := by
  obtain ⟨w, e, h⟩ := word_total op d n m a c imm
  have h2 := h
  unfold enc_Word.f at h2
  obtain ⟨t, ht, _⟩ := Option.bind_eq_some_iff.1 h2
  refine ⟨t, ht, fun h0 => ?_⟩
  subst h0
  obtain ⟨_, _, _, rfl⟩ := word_of ht h
  exact ⟨w, h⟩
theorem pure (op d n m a c imm op' d' n' m' a' c' imm' : Int) : brazierlaw3_EncUnlike.f 40 op d n m a c imm op' d' n' m' a' c' imm' = some true := by
  obtain ⟨e, he, hg⟩ := check_total op d n m a c imm
  obtain ⟨e', he', hg'⟩ := check_total op' d' n' m' a' c' imm'
  unfold brazierlaw3_EncUnlike.f
  rw [known_true, Option.bind_some, if_pos rfl, he, Option.bind_some]
  by_cases h0 : e = 0
  · rw [if_pos h0, he', Option.bind_some]
    by_cases h1 : e' = 0
    · obtain ⟨w, hw⟩ := hg h0
      obtain ⟨w', hw'⟩ := hg' h1
      subst h1
      simp only [brazierlaw3_EncUnlike.j0, bne_self_eq_false, Bool.false_eq_true, if_false, hw, hw', Option.bind_some, if_true]
      refine congrArg some ?_
      by_cases hww : w = w'
      · subst hww
        obtain ⟨rfl, rfl, rfl, rfl, rfl, rfl, rfl⟩ := one_word hw hw'
        simp
      · have hne : ¬ (op = op' ∧ d = d' ∧ n = n' ∧ m = m' ∧ a = a' ∧ c = c' ∧ imm = imm') := by
          rintro ⟨rfl, rfl, rfl, rfl, rfl, rfl, rfl⟩
          exact hww (Prod.mk.inj (Option.some.inj (hw.symm.trans hw'))).1
        have e1 : (w == w') = false := by simpa using hww
        have e2 : (op == op' && (d == d' && (n == n' && (m == m' && (a == a' && (c == c' && (imm == imm'))))))) = false := by
          rw [Bool.eq_false_iff]
          intro hb
          simp only [Bool.and_eq_true, beq_iff_eq] at hb
          exact hne hb
        rw [e1, e2]
        rfl
    · have hb : (e' != 0) = true := by simpa using h1
      rw [hb]
      rfl
  · rw [if_neg h0]
    rfl
set_option maxRecDepth 100000 in
theorem lifted (os : Os) (started : os.Started) (H : Type) (enc : TypeId × Value → H) :
    ReturnsInHanded {} Try.checked os 4 .any (Rows.encUnlikeSpec.pre6 enc Try.prog Try.f4 Rows.encUnlikeRow.domain false) (Rows.encUnlikeSpec.post enc Try.prog Try.f4 false true false false) := by
  refine law_lifted (C := Try.checked) (rt := 4) own started (by kernel_rfl) Try.func4 laidOut (by kernel_rfl) rfl Try.underlying4 rfl (fun ds hds => ?_)
    (ChangeSpec.witness6 (enc := enc) (C := Try.checked) false ⟨#[], #[.agg #[.int .i64 0, .int .i64 0, .int .i64 0, .int .i64 0, .int .i64 0, .int .i64 0, .int .i64 0], .agg #[.int .i64 0, .int .i64 0, .int .i64 0, .int .i64 0, .int .i64 0, .int .i64 0, .int .i64 0]], []⟩ 8 (by kernel_rfl) (by kernel_rfl) (by kernel_rfl) (by kernel_rfl)) ?_
  · have hds' : ds.length = 2 := hds
    match ds, hds' with
    | [d1, d2], _ => rfl
  intro W base args ds p hval0 hA0 hsz0
  have hval : ∀ (j : Nat) t v, Try.f4.params[j]? = some t → args[j]? = some v → Value.okWide Try.prog W .any base t v := hval0
  have hA : DataW.TrodAll enc Try.prog W 0 (fun _ => true) true Try.f4.params.toList args.toList ds p := hA0
  clear hval0 hA0 hsz0
  rw [Try.params4] at hA hval
  obtain ⟨v0, vs0, d0, ds0, p0, q0, hargs, rfl, rfl, h0, r0⟩ := trodAll_cons hA
  obtain ⟨v1, vs1, d1, ds1, p1, q1, rfl, rfl, rfl, h1, r1⟩ := trodAll_cons r0
  obtain ⟨rfl, rfl, rfl⟩ := trodAll_nil r1
  obtain rfl : args = #[v0, v1] := by cases args; simp_all
  obtain ⟨G, oI⟩ := oIns
  obtain ⟨x0, cs0, rfl, k0, _⟩ := oI.arg_struct Try.underlying23 (hval 0 23 v0 rfl rfl) h0
  obtain ⟨_, _, rfl, rfl, _, _, rfl, rfl, _, _, rfl, rfl, _, _, rfl, rfl, _, _, rfl, rfl, _, _, rfl, rfl, rfl⟩ := k0
  obtain ⟨x1, cs1, rfl, k1, _⟩ := oI.arg_struct Try.underlying23 (hval 1 23 v1 rfl rfl) h1
  obtain ⟨_, _, rfl, rfl, _, _, rfl, rfl, _, _, rfl, rfl, _, _, rfl, rfl, _, _, rfl, rfl, _, _, rfl, rfl, rfl⟩ := k1
  exact brazierlaw3_EncUnlike.calls 40 x0.1 x0.2.1 x0.2.2.1 x0.2.2.2.1 x0.2.2.2.2.1 x0.2.2.2.2.2.1 x0.2.2.2.2.2.2 x1.1 x1.2.1 x1.2.2.1 x1.2.2.2.1 x1.2.2.2.2.1 x1.2.2.2.2.2.1 x1.2.2.2.2.2.2 true W (pure ..)
theorem over : Rows.encUnlikeRow.holds Try.pinned (OpenSpec.ofChange Rows.encUnlikeSpec) :=
  OpenClaim.holds_of_wide 4 Try.f4 rfl rfl rfl rfl rfl rfl rfl ⟨rfl, rfl, rfl, rfl, rfl⟩ rfl rfl rfl rfl rfl (by kernel_rfl) Try.func4 (by kernel_rfl)
    (of_decide_eq_true (by kernel_rfl)) (by unfold Func.isWrapper; first | (rw [if_pos (by decide +kernel)]; kernel_rfl) | (rw [if_neg (by decide +kernel)]; exact ⟨rfl, rfl⟩))
    (fun os started H enc _ => lifted os started H enc)
theorem proved : Rows.EncUnlikeSaid := over
#print axioms proved
end Go.Proofs.Ytbjikmepfpkmjaa.encUnlike
namespace Go.Proofs.Ytbjikmepfpkmjaa
/-- The row, under a short name, for the claim. -/
theorem encUnlike_holds : Rows.EncUnlikeSaid := encUnlike.proved
end Go.Proofs.Ytbjikmepfpkmjaa
