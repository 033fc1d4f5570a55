/- The rows of laws, for any types of arguments: what a reading of an argument says of its cells (Opens), and the row out of a contract that ends in Below. -/
import Derived.WalkKit
import Derived.ProofKit
import Derived.OpenShut
import Derived.ShutString
import Derived.ChangeOld
import Derived.Below
import Derived.SizedLaws
import Derived.Carry
import Derived.Deep.Slices
import Derived.Deep.DeepHandedRow
import Derived.Test.YtpahclogghdnpaaDoorzA64KindsWWords
namespace Go.Proofs.YtpahclogghdnpaaDoorR
open Go.ChangeShapes Go.WideShapes Go.ChangeAt Go.RowKit Go.Deep Go.Proofs.YtpahclogghdnpaaDoorW.PrintWords
open Go.ChangeMaps (open_string shut_string)

section
variable {P : Program}

/-- What a reading at type t says: the cells are of kind kd at some x of which G holds. -/
def Opens (P : Program) (t : TypeId) {α : Type} (kd : Kd α) (G : α → Prop) : Prop :=
  ∀ (H : Type) (enc : TypeId × Value → H) (W : World) (base : Nat) (sp : Nat → Bool) (held : Bool) (fuel : Nat) (cs : List Value) (y : DataW H × List MemPlace),
    DataW.trod enc P W base sp held fuel t cs = some y → ∃ x, kd.K W x cs ∧ G x

theorem Opens.int {t : TypeId} {k : IntKind} (ht : P.underlying t = some (.int k)) : Opens P t (Kd.int k) (fun x => (Lit.int k x).wf = true) := by
  intro H enc W base sp held fuel cs y h
  obtain ⟨n, rfl, _, hw⟩ := DataW.trod_int ht h
  exact ⟨n, rfl, hw⟩

theorem Opens.bool {t : TypeId} (ht : P.underlying t = some .bool) : Opens P t Kd.bool (fun _ => True) := by
  intro H enc W base sp held fuel cs y h
  obtain ⟨b, rfl, _⟩ := DataW.trod_bool ht h
  exact ⟨b, rfl, trivial⟩

theorem Opens.string {t : TypeId} (ht : P.underlying t = some .string) : Opens P t Kd.string (fun s => s.size ≤ maxLen) := by
  intro H enc W base sp held fuel cs y h
  obtain ⟨s, rfl, _, hs⟩ := DataW.trod_string ht h
  exact ⟨s, rfl, hs⟩

theorem Opens.slice {t e : TypeId} {α : Type} {kd : Kd α} {G : α → Prop} (ht : P.underlying t = some (.slice e)) (he : Opens P e kd G) (hsz : P.cellsOf e = kd.sz) :
    Opens P t (Kd.slice e kd) (fun xs => xs.length ≤ maxLen ∧ ∀ x ∈ xs, G x) := by
  intro H enc W base sp held fuel cs y h
  rcases open_slice ht h with ⟨rfl, _⟩ | ⟨a, len, cap, m, n, D, Pl, rfl, hb, hl, hm, hmm, _, hi⟩
  · exact ⟨[], ⟨none, 0, rfl, Nat.le_refl _, rfl, by simp, fun h => absurd h (by simp)⟩, by simp, fun x hx => by simp at hx⟩
  · have hlm : len ≤ m := by rw [hmm]; split <;> omega
    have hx : ∀ i, i < len → ∃ x c, W.cells? base (a.add (i * kd.sz)) kd.sz = some c ∧ kd.K W x c ∧ G x := by
      intro i hil
      obtain ⟨cs', hc, ht'⟩ := hi i (by omega)
      obtain ⟨x, hk, hg⟩ := he H enc W base sp held n cs' _ ht'
      rw [hsz] at hc
      exact ⟨x, cs', hc, hk, hg⟩
    have hall : ∀ k, k ≤ len → ∃ xs : List α, xs.length = k ∧ (∀ x ∈ xs, G x) ∧ ∀ j p, xs[j]? = some p → ∃ c, c.length = kd.sz ∧ kd.K W p c ∧ ∀ i u, c[i]? = some u → W.cell? (a.add (j * kd.sz + i)) = some u := by
      intro k
      induction k with
      | zero => intro _; exact ⟨[], rfl, fun x hx => by simp at hx, fun j p hp => by simp at hp⟩
      | succ k ih =>
        intro hk
        obtain ⟨xs, hxl, hxg, hxc⟩ := ih (by omega)
        obtain ⟨x, c, hc, hkx, hgx⟩ := hx k (by omega)
        refine ⟨xs ++ [x], by simp [hxl], ?_, ?_⟩
        · intro z hz
          rcases List.mem_append.1 hz with hz | hz
          · exact hxg z hz
          · rw [List.mem_singleton.1 hz]; exact hgx
        · intro j p hp
          by_cases hj : j < xs.length
          · rw [List.getElem?_append_left hj] at hp
            exact hxc j p hp
          · rw [List.getElem?_append_right (by omega)] at hp
            have hj2 : j = k := by
              by_cases e : j - xs.length = 0
              · omega
              · rw [List.getElem?_eq_none (by simp; omega)] at hp
                cases hp
            subst hj2
            rw [hxl, Nat.sub_self] at hp
            obtain rfl : x = p := by simpa using hp
            obtain ⟨_, hcl, hat⟩ := World.cells?_some hc
            refine ⟨c, hcl, hkx, fun i u hu => ?_⟩
            have hil : i < kd.sz := by
              rw [← hcl]
              exact (List.getElem?_eq_some_iff.1 hu).1
            have := hat i hil
            rw [← Go.Deep.add_add, this, hu]
    obtain ⟨xs, hxl, hxg, hxc⟩ := hall len (Nat.le_refl _)
    refine ⟨xs, ⟨some a, cap, ?_, ?_, rfl, ?_, fun _ => ⟨a, rfl, hxc⟩⟩, ?_, hxg⟩
    · rw [hxl]
    · rw [hxl]; exact hl
    · unfold maxLen at hm; omega
    · omega

/-- The fields from one on, in line from an offset on. -/
def OpensAt (P : Program) (fs : List Field) (off : Nat) {α : Type} (kd : Kd α) (G : α → Prop) : Prop :=
  ∀ (H : Type) (enc : TypeId × Value → H) (W : World) (base : Nat) (sp : Nat → Bool) (held : Bool) (fuel : Nat) (cs : List Value) (ys : List (DataW H × List MemPlace)),
    cs.length = off + kd.sz → (∀ (j : Nat) (f : Field), fs[j]? = some f → DataW.trod enc P W base sp held fuel f.type ((cs.drop f.offset).take (P.cellsOf f.type)) = ys[j]?) → ys.length = fs.length → ∃ x, kd.K W x (cs.drop off) ∧ G x

theorem OpensAt.one {f : Field} {off : Nat} {α : Type} {kd : Kd α} {G : α → Prop} (h : Opens P f.type kd G) (ho : f.offset = off) (hs : P.cellsOf f.type = kd.sz) : OpensAt P [f] off kd G := by
  intro H enc W base sp held fuel cs ys hl hf hy
  match ys, hy with
  | [y], _ =>
    have h1 := hf 0 f rfl
    rw [ho, hs, List.take_of_length_le (by simp; omega)] at h1
    exact h H enc W base sp held fuel _ _ h1

theorem OpensAt.cons {f : Field} {fs : List Field} {off : Nat} {α β : Type} {a : Kd α} {b : Kd β} {Ga : α → Prop} {Gb : β → Prop} (h : Opens P f.type a Ga) (ho : f.offset = off) (hs : P.cellsOf f.type = a.sz)
    (hr : OpensAt P fs (off + a.sz) b Gb) : OpensAt P (f :: fs) off (Kd.pair a b) (fun x => Ga x.1 ∧ Gb x.2) := by
  intro H enc W base sp held fuel cs ys hl hf hy
  have hl' : cs.length = off + (a.sz + b.sz) := hl
  match ys, hy with
  | y :: ys, hy =>
    have h1 := hf 0 f rfl
    rw [ho, hs] at h1
    obtain ⟨x, hx, hg⟩ := h H enc W base sp held fuel _ _ h1
    obtain ⟨z, hz, hgz⟩ := hr H enc W base sp held fuel cs ys (by omega) (fun j g hg => by simpa using hf (j + 1) g (by simpa using hg)) (by simpa using hy)
    refine ⟨(x, z), ⟨_, _, ?_, hx, hz⟩, hg, hgz⟩
    rw [← List.drop_drop, List.take_append_drop]

theorem Opens.struct {t : TypeId} {fs : Array Field} {α : Type} {kd : Kd α} {G : α → Prop} (ht : P.underlying t = some (.struct fs)) (h : OpensAt P fs.toList 0 kd G) (hs : P.cellsOf t = kd.sz) : Opens P t kd G := by
  intro H enc W base sp held fuel cs y hy
  obtain ⟨xs, n, _, _, hlen, hxl, hg⟩ := DataW.trod_struct ht hy
  have := h H enc W base sp held n cs xs (by omega) (fun j f hj => hg j f (by simpa using hj)) (by simpa using hxl)
  simpa using this

theorem Opens.mono {t : TypeId} {α : Type} {kd : Kd α} {G G' : α → Prop} (h : Opens P t kd G) (hg : ∀ x, G x → G' x) : Opens P t kd G' := by
  intro H enc W base sp held fuel cs y hy
  obtain ⟨x, hx, hgx⟩ := h H enc W base sp held fuel cs y hy
  exact ⟨x, hx, hg x hgx⟩

/-- All arguments read on, where nothing of what was there has changed. -/
theorem trodAll_below {H : Type} {enc : TypeId × Value → H} (hl : laidOutB P = true) {W W' : World} (hb : Below W.heap.size W W') : ∀ {ts : List TypeId} {vs : List Value} {ds : List (DataW H)} {ps : List MemPlace},
    (∀ t ∈ ts, P.readableRec t = true ∧ t < P.types.size) → DataW.TrodAll enc P W 0 (fun _ => true) true ts vs ds ps → DataW.TrodAll enc P W' 0 (fun b => decide (b < W.heap.size)) true ts vs ds ps
  | [], _, _, _, _, h => by
    obtain ⟨rfl, rfl, rfl⟩ := trodAll_nil h
    exact trodAll_mk0
  | t :: ts, vs, ds, ps, hr, h => by
    obtain ⟨v, vs', d, ds', p, q, rfl, rfl, rfl, h1, h2⟩ := trodAll_cons h
    refine trodAll_cons_mk (Below.trod hl (hr t (by simp)).1 (hr t (by simp)).2 h1 hb ?_) (trodAll_below hl hb (fun t ht => hr t (by simp [ht])) h2)
    obtain ⟨m, hm⟩ := h1
    exact DataW.trod_lt m _ _ _ hm
end

/-- THE ROW OF A LAW: out of its walk, that ends in Below. -/
theorem law_lifted {C : Checked} {os : Os} {f : FuncId} {fn : Func} {s : ChangeSpec} {conds : List PathCond} {rt : TypeId} {H : Type} {enc : TypeId × Value → H}
    (own : ownKnob C.prog.godebug = none) (started : os.Started) (noInit : C.prog.inits.idxOf? f = none) (hfn : C.prog.funcs[f]? = some fn)
    (laidOut : laidOutB C.prog = true) (hread : (fn.params.toList.all fun t => C.prog.readableRec t && decide (t < C.prog.types.size)) = true)
    (hres : fn.resultTypes = #[rt]) (hrt : C.prog.underlying rt = some .bool) (hvars : s.vars = [])
    (hspec : ∀ ds : List (DataW H), ds.length = fn.params.size → s.fn H ds = { results := [.lit (.bool true)], args := ds })
    (witness : ∃ (w : World) (tape : Tape) (i : Input), w.os = os ∧ (w.forCall tape i).Shaped C.prog ∧ i.vars = [] ∧ Input.okWide C.prog (w.forCall tape i) .any w.heap.size f i ∧
      s.pre6 enc C.prog fn conds false (w.forCall tape i).memory i.args ∧ ({} : Assume).holds C.prog (lone (Frame.enter C.prog f i.args .normal) [] (w.forCall tape i)))
    (walk : ∀ (W : World) (base : Nat) (args : Array Value) (ds : List (DataW H)) (p : List MemPlace),
      (∀ (j : Nat) t v, fn.params[j]? = some t → args[j]? = some v → Value.okWide C.prog W .any base t v) →
      DataW.TrodAll enc C.prog W 0 (fun _ => true) true fn.params.toList args.toList ds p →
      (DataW.weightsEach C.prog fn.params.toList ds).all (· ≤ reachBytes) = true →
      Calls C.prog f args W fun e w' => e = .returned (.bool true) ∧ Below W.heap.size W w') :
    ReturnsInHanded {} C os f .any (s.pre6 enc C.prog fn conds false) (s.post enc C.prog fn false true false false) := by
  refine returnsInHanded_of_change_sized own started noInit hfn witness ?_
  intro W base args ds gs before hval hW hcnd hsz _
  have hW' := hW
  obtain ⟨p, q, hA, hV, rfl, hfz, hnd⟩ := hW
  rw [hvars] at hV
  obtain ⟨rfl, rfl⟩ := trodVars_none hV
  have hlen : ∀ {ts : List TypeId} {vs : List Value} {ds : List (DataW H)} {ps : List MemPlace}, DataW.TrodAll enc C.prog W 0 (fun _ => true) true ts vs ds ps → ds.length = ts.length := by
    intro ts
    induction ts with
    | nil => intro vs ds ps h; obtain ⟨rfl, rfl, rfl⟩ := trodAll_nil h; rfl
    | cons t ts ih =>
      intro vs ds ps h
      obtain ⟨v, vs', d, ds', p, q, rfl, rfl, rfl, h1, h2⟩ := trodAll_cons h
      simp [ih h2]
  have hdl := hlen hA
  have hs := hspec ds (by simpa using hdl)
  have hsz' : (DataW.weightsEach C.prog fn.params.toList ds).all (· ≤ reachBytes) = true := by
    have : s.plain.varTypes C.prog = [] := by simp [ChangeSpec.plain, DataSpec.varTypes, hvars]
    rw [this] at hsz
    simpa using hsz
  refine (walk W base args ds p hval hA hsz').mono fun e W' ⟨he, bel⟩ => ?_
  subst he
  have hb := trodAll_below laidOut bel (fun t ht => by
    have := List.all_eq_true.1 hread t ht
    simpa using this) hA
  refine ⟨_, rfl, ds, [], _, [], p, [], hW', ?_, ?_, ?_, bel.frame _, fun h => by cases h⟩
  · rw [List.append_nil, hs, hres]
    exact trodAll_mk1 (shut_bool hrt _)
  · rw [List.append_nil, hs]
    exact hb
  · rw [List.append_nil, hs, hvars]
    rfl
end Go.Proofs.YtpahclogghdnpaaDoorR
namespace Go.Proofs.YtpahclogghdnpaaDoorR
open Go.ChangeShapes Go.WideShapes Go.ChangeAt Go.RowKit Go.Deep
/-- THE ROW OF A LAW THAT LISTS VARIABLES, or bears the bound on what it reads: out of its walk. -/
theorem law_lifted_row {C : Checked} {os : Os} {f : FuncId} {fn : Func} {S : OpenSpec} {s : ChangeSpec} {F : Stop.Interp} {conds : List PathCond} {laid : List (String × DataW Unit)} {rt : TypeId} {H : Type} {enc : TypeId × Value → H}
    (own : ownKnob C.prog.godebug = none) (started : os.Started) (noInit : C.prog.inits.idxOf? f = none) (hfn : C.prog.funcs[f]? = some fn)
    (laidOut : laidOutB C.prog = true) (hread : (fn.params.toList.all fun t => C.prog.readableRec t && decide (t < C.prog.types.size)) = true)
    (hres : fn.resultTypes = #[rt]) (hrt : C.prog.underlying rt = some .bool) (hS : S.at F = s) (hSv : S.vars = []) (hb : S.bare.plain.varTypes C.prog = []) (hvars : s.vars = [])
    (hspec : ∀ ds : List (DataW H), ds.length = fn.params.size → s.fn H ds = { results := [.lit (.bool true)], args := ds })
    (witness : ∃ (w : World) (tape : Tape) (i : Input), w.os = os ∧ (w.forCall tape i).Shaped C.prog ∧ i.vars = [] ∧ Input.okWide C.prog (w.forCall tape i) .any w.heap.size f i ∧
      S.preRow enc C.prog fn conds false laid (w.forCall tape i).memory i.args ∧ ({} : Assume).holds C.prog (lone (Frame.enter C.prog f i.args .normal) [] (w.forCall tape i)))
    (walk : ∀ (W : World) (base : Nat) (args : Array Value) (ds : List (DataW H)) (p : List MemPlace),
      (∀ (j : Nat) t v, fn.params[j]? = some t → args[j]? = some v → Value.okWide C.prog W .any base t v) →
      DataW.TrodAll enc C.prog W 0 (fun _ => true) true fn.params.toList args.toList ds p →
      (DataW.weightsEach C.prog fn.params.toList ds).all (· ≤ reachBytes) = true →
      (∀ k, S.cond = some k → k H ds = true) → laidMetH C.prog laid W →
      Calls C.prog f args W fun e w' => e = .returned (.bool true) ∧ Below W.heap.size W w') :
    ReturnsInHanded {} C os f .any (S.preRow enc C.prog fn conds false laid) ((S.at F).post enc C.prog fn false true false false) := by
  refine returnsInHanded_of_row own started noInit hfn witness ?_
  intro W base args ds gs before hval hW hcnd hk hsz hL _ _
  rw [hS]
  rw [hSv] at hW
  have hW' : DataW.Whole enc C.prog fn.params.toList s.vars false W args.toList ds gs before := by rw [hvars]; exact hW
  obtain ⟨p, q, hA, hV, rfl, hfz, hnd⟩ := hW
  obtain ⟨rfl, rfl⟩ := trodVars_none hV
  have hlen : ∀ {ts : List TypeId} {vs : List Value} {ds : List (DataW H)} {ps : List MemPlace}, DataW.TrodAll enc C.prog W 0 (fun _ => true) true ts vs ds ps → ds.length = ts.length := by
    intro ts
    induction ts with
    | nil => intro vs ds ps h; obtain ⟨rfl, rfl, rfl⟩ := trodAll_nil h; rfl
    | cons t ts ih =>
      intro vs ds ps h
      obtain ⟨v, vs', d, ds', p, q, rfl, rfl, rfl, h1, h2⟩ := trodAll_cons h
      simp [ih h2]
  have hdl := hlen hA
  have hs := hspec ds (by simpa using hdl)
  rw [hb] at hsz
  have hsz' : (DataW.weightsEach C.prog fn.params.toList ds).all (· ≤ reachBytes) = true := by simpa using hsz
  refine (walk W base args ds p hval hA hsz' (fun k h => by simpa using hk k h) hL).mono fun e W' ⟨he, bel⟩ => ?_
  subst he
  have hb' := trodAll_below laidOut bel (fun t ht => by
    have := List.all_eq_true.1 hread t ht
    simpa using this) hA
  refine ⟨_, rfl, ds, [], _, [], p, [], hW', ?_, ?_, ?_, bel.frame _, fun h => by cases h⟩
  · rw [List.append_nil, hs, hres]
    exact trodAll_mk1 (shut_bool hrt _)
  · rw [List.append_nil, hs]
    exact hb'
  · rw [List.append_nil, hs, hvars]
    rfl
end Go.Proofs.YtpahclogghdnpaaDoorR
