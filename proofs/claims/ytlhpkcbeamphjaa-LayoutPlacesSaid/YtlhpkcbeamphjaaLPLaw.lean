/- LayoutPlaces: whatever the configuration, the place, the core, the object, the slot and the class: the law returns true and leaves its arguments as they were. No condition. -/
import Derived.Test.YtlhpkcbeamphjaaRows
import Derived.Test.YtlhpkcbeamphjaaPLayoutPlacesx4
import Derived.Test.YtlhpkcbeamphjaaLPPure
import Derived.Test.YtlhpkcbeamphjaaR
namespace Go.Proofs.Ytlhpkcbeamphjaa.layoutPlaces
open Go.ChangeShapes Go.WideShapes Go.ChangeAt Go.RowKit Go.Proofs.YtlhpkcbeamphjaaR Go.Proofs.Ytlhpkcbeamphjaa.PLayoutPlaces Go.Proofs.YtlhpkcbeamphjaaW.PrintWords
theorem own : ownKnob Try.prog.godebug = none := by kernel_rfl
theorem laidOut : laidOutB Try.prog = true := by kernel_rfl
theorem oConfig : ∃ G, Opens Try.prog 29 (Kd.pair (Kd.int .i64) (Kd.pair (Kd.int .i64) (Kd.pair (Kd.int .i64) (Kd.pair (Kd.int .i64) (Kd.int .i64))))) G :=
  ⟨_, Opens.struct Try.underlying29 (OpensAt.cons (Opens.int Try.underlying3) rfl (by kernel_rfl) (OpensAt.cons (Opens.int Try.underlying3) rfl (by kernel_rfl) (OpensAt.cons (Opens.int Try.underlying3) rfl (by kernel_rfl) (OpensAt.cons (Opens.int Try.underlying3) rfl (by kernel_rfl) (OpensAt.one (Opens.int Try.underlying3) rfl (by kernel_rfl)))))) (by kernel_rfl)⟩
set_option maxRecDepth 100000 in
theorem lifted (os : Os) (started : os.Started) (H : Type) (enc : TypeId × Value → H) :
    ReturnsInHanded {} Try.checked os 4 .any (Rows.layoutPlacesSpec.pre6 enc Try.prog Try.f4 Rows.layoutPlacesRow.domain false) (Rows.layoutPlacesSpec.post enc Try.prog Try.f4 false true false false) := by
  refine law_lifted (C := Try.checked) (rt := 4) own started (by kernel_rfl) Try.func4 laidOut (by kernel_rfl) rfl Try.underlying4 rfl (fun ds hds => ?_)
    (ChangeSpec.witness6 (enc := enc) (C := Try.checked) false ⟨#[], #[.agg #[.int .i64 0, .int .i64 0, .int .i64 0, .int .i64 0, .int .i64 0], .int .u64 0, .int .i64 0, .int .i64 0, .int .i64 0, .int .i64 0], []⟩ 8 (by kernel_rfl) (by kernel_rfl) (by kernel_rfl) (by kernel_rfl)) ?_
  · have hds' : ds.length = 6 := hds
    match ds, hds' with
    | [d1, d2, d3, d4, d5, d6], _ => rfl
  intro W base args ds p hval0 hA0 hsz0
  have hval : ∀ (j : Nat) t v, Try.f4.params[j]? = some t → args[j]? = some v → Value.okWide Try.prog W .any base t v := hval0
  have hA : DataW.TrodAll enc Try.prog W 0 (fun _ => true) true Try.f4.params.toList args.toList ds p := hA0
  clear hval0 hA0 hsz0
  rw [Try.params4] at hA hval
  obtain ⟨v0, vs0, d0, ds0, p0, q0, hargs, rfl, rfl, h0, r0⟩ := trodAll_cons hA
  obtain ⟨v1, vs1, d1, ds1, p1, q1, rfl, rfl, rfl, h1, r1⟩ := trodAll_cons r0
  obtain ⟨v2, vs2, d2, ds2, p2, q2, rfl, rfl, rfl, h2, r2⟩ := trodAll_cons r1
  obtain ⟨v3, vs3, d3, ds3, p3, q3, rfl, rfl, rfl, h3, r3⟩ := trodAll_cons r2
  obtain ⟨v4, vs4, d4, ds4, p4, q4, rfl, rfl, rfl, h4, r4⟩ := trodAll_cons r3
  obtain ⟨v5, vs5, d5, ds5, p5, q5, rfl, rfl, rfl, h5, r5⟩ := trodAll_cons r4
  obtain ⟨rfl, rfl, rfl⟩ := trodAll_nil r5
  obtain rfl : args = #[v0, v1, v2, v3, v4, v5] := by cases args; simp_all
  obtain ⟨G, oC⟩ := oConfig
  obtain ⟨x0, cs0, rfl, k0, _⟩ := oC.arg_struct Try.underlying29 (hval 0 29 v0 rfl rfl) h0
  obtain ⟨_, _, rfl, rfl, _, _, rfl, rfl, _, _, rfl, rfl, _, _, rfl, rfl, rfl⟩ := k0
  obtain ⟨a1, rfl, rfl, rfl, _⟩ := open_int Try.underlying24 (hval 1 24 v1 rfl rfl) h1
  obtain ⟨a2, rfl, rfl, rfl, _⟩ := open_int Try.underlying3 (hval 2 3 v2 rfl rfl) h2
  obtain ⟨a3, rfl, rfl, rfl, _⟩ := open_int Try.underlying3 (hval 3 3 v3 rfl rfl) h3
  obtain ⟨a4, rfl, rfl, rfl, _⟩ := open_int Try.underlying3 (hval 4 3 v4 rfl rfl) h4
  obtain ⟨a5, rfl, rfl, rfl, _⟩ := open_int Try.underlying3 (hval 5 3 v5 rfl rfl) h5
  exact brazierlaw22_LayoutPlaces.calls 20 x0.1 x0.2.1 x0.2.2.1 x0.2.2.2.1 x0.2.2.2.2 a1 a2 a3 a4 a5 true W (PureLP.LayoutPlaces ..)
theorem over : Rows.layoutPlacesRow.holds Try.pinned (OpenSpec.ofChange Rows.layoutPlacesSpec) :=
  OpenClaim.holds_of_wide 4 Try.f4 rfl rfl rfl rfl rfl rfl rfl ⟨rfl, rfl, rfl, rfl, rfl⟩ rfl rfl rfl rfl rfl (by kernel_rfl) Try.func4 (by kernel_rfl)
    (of_decide_eq_true (by kernel_rfl)) (by unfold Func.isWrapper; first | (rw [if_pos (by decide +kernel)]; kernel_rfl) | (rw [if_neg (by decide +kernel)]; exact ⟨rfl, rfl⟩))
    (fun os started H enc _ => lifted os started H enc)
theorem proved : Rows.LayoutPlacesSaid := over
#print axioms proved
end Go.Proofs.Ytlhpkcbeamphjaa.layoutPlaces
namespace Go.Proofs.Ytlhpkcbeamphjaa
/-- The row, under a short name, for the claim. -/
theorem layoutPlaces_holds : Rows.LayoutPlacesSaid := layoutPlaces.proved
end Go.Proofs.Ytlhpkcbeamphjaa
