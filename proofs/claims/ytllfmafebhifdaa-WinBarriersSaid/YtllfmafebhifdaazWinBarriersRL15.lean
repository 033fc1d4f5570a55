/- Parts of the proof, one behind the other. -/
import Derived.WalkKit
import Derived.ProofKit
import Derived.OpenShut
import Derived.ShutString
import Derived.ChangeOld
import Derived.Below
import Derived.SizedLaws
import Derived.Carry
import Derived.Deep.Slices
import Derived.Deep.DeepHandedRow
import Derived.Test.YtllfmafebhifdaazWinBarriersWWords
section
/- The rows of laws, for any types of arguments: what a reading of an argument says of its cells (Opens), and the row out of a contract that ends in Below. -/
namespace Go.Proofs.YtllfmafebhifdaaR
open Go.ChangeShapes Go.WideShapes Go.ChangeAt Go.RowKit Go.Deep Go.Proofs.YtllfmafebhifdaaW.PrintWords
open Go.ChangeMaps (open_string shut_string)

section
variable {P : Program}

/-- What a reading at type t says: the cells are of kind kd at some x of which G holds. -/
def Opens (P : Program) (t : TypeId) {α : Type} (kd : Kd α) (G : α → Prop) : Prop :=
  ∀ (H : Type) (enc : TypeId × Value → H) (W : World) (base : Nat) (sp : Nat → Bool) (held : Bool) (fuel : Nat) (cs : List Value) (y : DataW H × List MemPlace),
    DataW.trod enc P W base sp held fuel t cs = some y → ∃ x, kd.K W x cs ∧ G x

theorem Opens.int {t : TypeId} {k : IntKind} (ht : P.underlying t = some (.int k)) : Opens P t (Kd.int k) (fun x => (Lit.int k x).wf = true) := by
  intro H enc W base sp held fuel cs y h
  obtain ⟨n, rfl, _, hw⟩ := DataW.trod_int ht h
  exact ⟨n, rfl, hw⟩

theorem Opens.bool {t : TypeId} (ht : P.underlying t = some .bool) : Opens P t Kd.bool (fun _ => True) := by
  intro H enc W base sp held fuel cs y h
  obtain ⟨b, rfl, _⟩ := DataW.trod_bool ht h
  exact ⟨b, rfl, trivial⟩

theorem Opens.string {t : TypeId} (ht : P.underlying t = some .string) : Opens P t Kd.string (fun s => s.size ≤ maxLen) := by
  intro H enc W base sp held fuel cs y h
  obtain ⟨s, rfl, _, hs⟩ := DataW.trod_string ht h
  exact ⟨s, rfl, hs⟩

theorem Opens.slice {t e : TypeId} {α : Type} {kd : Kd α} {G : α → Prop} (ht : P.underlying t = some (.slice e)) (he : Opens P e kd G) (hsz : P.cellsOf e = kd.sz) :
    Opens P t (Kd.slice e kd) (fun xs => xs.length ≤ maxLen ∧ ∀ x ∈ xs, G x) := by
  intro H enc W base sp held fuel cs y h
  rcases open_slice ht h with ⟨rfl, _⟩ | ⟨a, len, cap, m, n, D, Pl, rfl, hb, hl, hm, hmm, _, hi⟩
  · exact ⟨[], ⟨none, 0, rfl, Nat.le_refl _, rfl, by simp, fun h => absurd h (by simp)⟩, by simp, fun x hx => by simp at hx⟩
  · have hlm : len ≤ m := by rw [hmm]; split <;> omega
    have hx : ∀ i, i < len → ∃ x c, W.cells? base (a.add (i * kd.sz)) kd.sz = some c ∧ kd.K W x c ∧ G x := by
      intro i hil
      obtain ⟨cs', hc, ht'⟩ := hi i (by omega)
      obtain ⟨x, hk, hg⟩ := he H enc W base sp held n cs' _ ht'
      rw [hsz] at hc
      exact ⟨x, cs', hc, hk, hg⟩
    have hall : ∀ k, k ≤ len → ∃ xs : List α, xs.length = k ∧ (∀ x ∈ xs, G x) ∧ ∀ j p, xs[j]? = some p → ∃ c, c.length = kd.sz ∧ kd.K W p c ∧ ∀ i u, c[i]? = some u → W.cell? (a.add (j * kd.sz + i)) = some u := by
      intro k
      induction k with
      | zero => intro _; exact ⟨[], rfl, fun x hx => by simp at hx, fun j p hp => by simp at hp⟩
      | succ k ih =>
        intro hk
        obtain ⟨xs, hxl, hxg, hxc⟩ := ih (by omega)
        obtain ⟨x, c, hc, hkx, hgx⟩ := hx k (by omega)
        refine ⟨xs ++ [x], by simp [hxl], ?_, ?_⟩
        · intro z hz
          rcases List.mem_append.1 hz with hz | hz
          · exact hxg z hz
          · rw [List.mem_singleton.1 hz]; exact hgx
        · intro j p hp
          by_cases hj : j < xs.length
          · rw [List.getElem?_append_left hj] at hp
            exact hxc j p hp
          · rw [List.getElem?_append_right (by omega)] at hp
            have hj2 : j = k := by
              by_cases e : j - xs.length = 0
              · omega
              · rw [List.getElem?_eq_none (by simp; omega)] at hp
                cases hp
            subst hj2
            rw [hxl, Nat.sub_self] at hp
            obtain rfl : x = p := by simpa using hp
            obtain ⟨_, hcl, hat⟩ := World.cells?_some hc
            refine ⟨c, hcl, hkx, fun i u hu => ?_⟩
            have hil : i < kd.sz := by
              rw [← hcl]
              exact (List.getElem?_eq_some_iff.1 hu).1
            have := hat i hil
            rw [← Go.Deep.add_add, this, hu]
    obtain ⟨xs, hxl, hxg, hxc⟩ := hall len (Nat.le_refl _)
    refine ⟨xs, ⟨some a, cap, ?_, ?_, rfl, ?_, fun _ => ⟨a, rfl, hxc⟩⟩, ?_, hxg⟩
    · rw [hxl]
    · rw [hxl]; exact hl
    · unfold maxLen at hm; omega
    · omega

/-- The fields from one on, in line from an offset on. -/
def OpensAt (P : Program) (fs : List Field) (off : Nat) {α : Type} (kd : Kd α) (G : α → Prop) : Prop :=
  ∀ (H : Type) (enc : TypeId × Value → H) (W : World) (base : Nat) (sp : Nat → Bool) (held : Bool) (fuel : Nat) (cs : List Value) (ys : List (DataW H × List MemPlace)),
    cs.length = off + kd.sz → (∀ (j : Nat) (f : Field), fs[j]? = some f → DataW.trod enc P W base sp held fuel f.type ((cs.drop f.offset).take (P.cellsOf f.type)) = ys[j]?) → ys.length = fs.length → ∃ x, kd.K W x (cs.drop off) ∧ G x

theorem OpensAt.one {f : Field} {off : Nat} {α : Type} {kd : Kd α} {G : α → Prop} (h : Opens P f.type kd G) (ho : f.offset = off) (hs : P.cellsOf f.type = kd.sz) : OpensAt P [f] off kd G := by
  intro H enc W base sp held fuel cs ys hl hf hy
  match ys, hy with
  | [y], _ =>
    have h1 := hf 0 f rfl
    rw [ho, hs, List.take_of_length_le (by simp; omega)] at h1
    exact h H enc W base sp held fuel _ _ h1

theorem OpensAt.cons {f : Field} {fs : List Field} {off : Nat} {α β : Type} {a : Kd α} {b : Kd β} {Ga : α → Prop} {Gb : β → Prop} (h : Opens P f.type a Ga) (ho : f.offset = off) (hs : P.cellsOf f.type = a.sz)
    (hr : OpensAt P fs (off + a.sz) b Gb) : OpensAt P (f :: fs) off (Kd.pair a b) (fun x => Ga x.1 ∧ Gb x.2) := by
  intro H enc W base sp held fuel cs ys hl hf hy
  have hl' : cs.length = off + (a.sz + b.sz) := hl
  match ys, hy with
  | y :: ys, hy =>
    have h1 := hf 0 f rfl
    rw [ho, hs] at h1
    obtain ⟨x, hx, hg⟩ := h H enc W base sp held fuel _ _ h1
    obtain ⟨z, hz, hgz⟩ := hr H enc W base sp held fuel cs ys (by omega) (fun j g hg => by simpa using hf (j + 1) g (by simpa using hg)) (by simpa using hy)
    refine ⟨(x, z), ⟨_, _, ?_, hx, hz⟩, hg, hgz⟩
    rw [← List.drop_drop, List.take_append_drop]

theorem Opens.struct {t : TypeId} {fs : Array Field} {α : Type} {kd : Kd α} {G : α → Prop} (ht : P.underlying t = some (.struct fs)) (h : OpensAt P fs.toList 0 kd G) (hs : P.cellsOf t = kd.sz) : Opens P t kd G := by
  intro H enc W base sp held fuel cs y hy
  obtain ⟨xs, n, _, _, hlen, hxl, hg⟩ := DataW.trod_struct ht hy
  have := h H enc W base sp held n cs xs (by omega) (fun j f hj => hg j f (by simpa using hj)) (by simpa using hxl)
  simpa using this

theorem Opens.mono {t : TypeId} {α : Type} {kd : Kd α} {G G' : α → Prop} (h : Opens P t kd G) (hg : ∀ x, G x → G' x) : Opens P t kd G' := by
  intro H enc W base sp held fuel cs y hy
  obtain ⟨x, hx, hgx⟩ := h H enc W base sp held fuel cs y hy
  exact ⟨x, hx, hg x hgx⟩

/-- All arguments read on, where nothing of what was there has changed. -/
theorem trodAll_below {H : Type} {enc : TypeId × Value → H} (hl : laidOutB P = true) {W W' : World} (hb : Below W.heap.size W W') : ∀ {ts : List TypeId} {vs : List Value} {ds : List (DataW H)} {ps : List MemPlace},
    (∀ t ∈ ts, P.readableRec t = true ∧ t < P.types.size) → DataW.TrodAll enc P W 0 (fun _ => true) true ts vs ds ps → DataW.TrodAll enc P W' 0 (fun b => decide (b < W.heap.size)) true ts vs ds ps
  | [], _, _, _, _, h => by
    obtain ⟨rfl, rfl, rfl⟩ := trodAll_nil h
    exact trodAll_mk0
  | t :: ts, vs, ds, ps, hr, h => by
    obtain ⟨v, vs', d, ds', p, q, rfl, rfl, rfl, h1, h2⟩ := trodAll_cons h
    refine trodAll_cons_mk (Below.trod hl (hr t (by simp)).1 (hr t (by simp)).2 h1 hb ?_) (trodAll_below hl hb (fun t ht => hr t (by simp [ht])) h2)
    obtain ⟨m, hm⟩ := h1
    exact DataW.trod_lt m _ _ _ hm
end

/-- THE ROW OF A LAW: out of its walk, that ends in Below. -/
theorem law_lifted {C : Checked} {os : Os} {f : FuncId} {fn : Func} {s : ChangeSpec} {conds : List PathCond} {rt : TypeId} {H : Type} {enc : TypeId × Value → H}
    (own : ownKnob C.prog.godebug = none) (started : os.Started) (noInit : C.prog.inits.idxOf? f = none) (hfn : C.prog.funcs[f]? = some fn)
    (laidOut : laidOutB C.prog = true) (hread : (fn.params.toList.all fun t => C.prog.readableRec t && decide (t < C.prog.types.size)) = true)
    (hres : fn.resultTypes = #[rt]) (hrt : C.prog.underlying rt = some .bool) (hvars : s.vars = [])
    (hspec : ∀ ds : List (DataW H), ds.length = fn.params.size → s.fn H ds = { results := [.lit (.bool true)], args := ds })
    (witness : ∃ (w : World) (tape : Tape) (i : Input), w.os = os ∧ (w.forCall tape i).Shaped C.prog ∧ i.vars = [] ∧ Input.okWide C.prog (w.forCall tape i) .any w.heap.size f i ∧
      s.pre6 enc C.prog fn conds false (w.forCall tape i).memory i.args ∧ ({} : Assume).holds C.prog (lone (Frame.enter C.prog f i.args .normal) [] (w.forCall tape i)))
    (walk : ∀ (W : World) (base : Nat) (args : Array Value) (ds : List (DataW H)) (p : List MemPlace),
      (∀ (j : Nat) t v, fn.params[j]? = some t → args[j]? = some v → Value.okWide C.prog W .any base t v) →
      DataW.TrodAll enc C.prog W 0 (fun _ => true) true fn.params.toList args.toList ds p →
      (DataW.weightsEach C.prog fn.params.toList ds).all (· ≤ reachBytes) = true →
      Calls C.prog f args W fun e w' => e = .returned (.bool true) ∧ Below W.heap.size W w') :
    ReturnsInHanded {} C os f .any (s.pre6 enc C.prog fn conds false) (s.post enc C.prog fn false true false false) := by
  refine returnsInHanded_of_change_sized own started noInit hfn witness ?_
  intro W base args ds gs before hval hW hcnd hsz _
  have hW' := hW
  obtain ⟨p, q, hA, hV, rfl, hfz, hnd⟩ := hW
  rw [hvars] at hV
  obtain ⟨rfl, rfl⟩ := trodVars_none hV
  have hlen : ∀ {ts : List TypeId} {vs : List Value} {ds : List (DataW H)} {ps : List MemPlace}, DataW.TrodAll enc C.prog W 0 (fun _ => true) true ts vs ds ps → ds.length = ts.length := by
    intro ts
    induction ts with
    | nil => intro vs ds ps h; obtain ⟨rfl, rfl, rfl⟩ := trodAll_nil h; rfl
    | cons t ts ih =>
      intro vs ds ps h
      obtain ⟨v, vs', d, ds', p, q, rfl, rfl, rfl, h1, h2⟩ := trodAll_cons h
      simp [ih h2]
  have hdl := hlen hA
  have hs := hspec ds (by simpa using hdl)
  have hsz' : (DataW.weightsEach C.prog fn.params.toList ds).all (· ≤ reachBytes) = true := by
    have : s.plain.varTypes C.prog = [] := by simp [ChangeSpec.plain, DataSpec.varTypes, hvars]
    rw [this] at hsz
    simpa using hsz
  refine (walk W base args ds p hval hA hsz').mono fun e W' ⟨he, bel⟩ => ?_
  subst he
  have hb := trodAll_below laidOut bel (fun t ht => by
    have := List.all_eq_true.1 hread t ht
    simpa using this) hA
  refine ⟨_, rfl, ds, [], _, [], p, [], hW', ?_, ?_, ?_, bel.frame _, fun h => by cases h⟩
  · rw [List.append_nil, hs, hres]
    exact trodAll_mk1 (shut_bool hrt _)
  · rw [List.append_nil, hs]
    exact hb
  · rw [List.append_nil, hs, hvars]
    rfl
end Go.Proofs.YtllfmafebhifdaaR
namespace Go.Proofs.YtllfmafebhifdaaR
open Go.ChangeShapes Go.WideShapes Go.ChangeAt Go.RowKit Go.Deep
end Go.Proofs.YtllfmafebhifdaaR
end
section
/- RL and the rows of laws: arguments by value. -/
namespace Go.Proofs.YtllfmafebhifdaaRL
open Go Go.ChangeShapes Go.WideShapes Go.ChangeAt Go.RowKit Go.Proofs.YtllfmafebhifdaaR
set_option linter.unusedVariables false
set_option linter.unusedSimpArgs false
/-- A cell's kind. -/
inductive CK where
  | int (k : IntKind)
  | bool
def CK.ok : CK → Value → Prop
  | .int k, v => ∃ n, v = .int k n ∧ (Lit.int k n).wf = true
  | .bool, v => ∃ b, v = .bool b
def oks : List CK → List Value → Prop
  | [], [] => True
  | k :: ks, v :: vs => k.ok v ∧ oks ks vs
  | _, _ => False
theorem oks_append : ∀ {a b : List CK} {u v : List Value}, oks a u → oks b v → oks (a ++ b) (u ++ v) := by
  intro a
  induction a with
  | nil => intro b u v h k; cases u <;> simp_all [oks]
  | cons c a ih =>
    intro b u v h k
    cases u with
    | nil => exact h.elim
    | cons x u => exact ⟨h.1, ih h.2 k⟩
def reps (n : Nat) (l : List CK) : List CK := (List.replicate n l).flatten
/-- The kinds of a type's cells, where all are numbers and bools that lie one behind the other. -/
def kindsF (k : TypeId → Option (List CK)) (P : Program) : Nat → List Field → Option (List CK)
  | _, [] => some []
  | off, f :: fs => match k f.type with
    | some a => match Nat.beq f.offset off && Nat.beq a.length (P.cellsOf f.type) with
      | true => match kindsF k P (off + a.length) fs with
        | some b => some (a ++ b)
        | none => none
      | false => none
    | none => none
def kinds (P : Program) : Nat → TypeId → Option (List CK)
  | 0, _ => none
  | d + 1, t => match P.underlying t with
    | some .bool => some [.bool]
    | some (.int k) => some [.int k]
    | some (.struct fs) => match kindsF (kinds P d) P 0 fs.toList with
      | some l => match Nat.beq l.length (P.cellsOf t) with
        | true => some l
        | false => none
      | none => none
    | some (.array n e) => match kinds P d e with
      | some l => match Nat.beq l.length (P.cellsOf e) && Nat.beq (n * l.length) (P.cellsOf t) with
        | true => some (reps n l)
        | false => none
      | none => none
    | _ => none
section
variable {H : Type} {enc : TypeId × Value → H} {P : Program} {W : World} {base : Nat} {sp : Nat → Bool} {held : Bool}
theorem kindsF_sound {d m : Nat} (ih : ∀ t l, kinds P d t = some l → ∀ (fuel : Nat) cs (x : DataW H × List MemPlace), DataW.trod enc P W base sp held fuel t cs = some x → oks l cs) : ∀ (fs : List Field) (off : Nat) (l : List CK) (cs : List Value) (xs : List (DataW H × List MemPlace)),
    kindsF (kinds P d) P off fs = some l → off + l.length ≤ cs.length → (∀ (i : Nat) f, fs[i]? = some f → ∃ x, DataW.trod enc P W base sp held m f.type ((cs.drop f.offset).take (P.cellsOf f.type)) = some x) → oks l ((cs.drop off).take l.length) := by
  intro fs
  induction fs with
  | nil => intro off l cs xs h _ _; simp only [kindsF, Option.some.injEq] at h; subst h; simp [oks]
  | cons f fs ihf =>
    intro off l cs xs h hlen hf
    simp only [kindsF] at h
    split at h
    · rename_i a ha
      split at h
      · rename_i hc
        simp only [Bool.and_eq_true] at hc
        have h1 : f.offset = off := Nat.eq_of_beq_eq_true hc.1
        have h2 : a.length = P.cellsOf f.type := Nat.eq_of_beq_eq_true hc.2
        split at h
        · rename_i b hb
          simp only [Option.some.injEq] at h
          subst h
          obtain ⟨x, hx⟩ := hf 0 f rfl
          have o1 := ih _ _ ha _ _ _ hx
          rw [h1, ← h2] at o1
          have o2 := ihf (off + a.length) b cs xs hb (by simp at hlen; omega) (fun i g hg => hf (i + 1) g (by simpa using hg))
          have : (cs.drop off).take (a ++ b).length = (cs.drop off).take a.length ++ ((cs.drop (off + a.length)).take b.length) := by
            rw [List.length_append, List.take_add, List.drop_drop]
          rw [this]
          exact oks_append o1 o2
        · cases h
      · cases h
    · cases h
theorem kinds_sound : ∀ (d : Nat) (t : TypeId) (l : List CK), kinds P d t = some l → ∀ (fuel : Nat) cs (x : DataW H × List MemPlace), DataW.trod enc P W base sp held fuel t cs = some x → oks l cs := by
  intro d
  induction d with
  | zero => intro t l h; simp [kinds] at h
  | succ d ih =>
    intro t l h fuel cs x hx
    simp only [kinds] at h
    split at h
    · rename_i ht
      simp only [Option.some.injEq] at h; subst h
      obtain ⟨b, rfl, _⟩ := DataW.trod_bool ht hx
      exact ⟨⟨b, rfl⟩, trivial⟩
    · rename_i k ht
      simp only [Option.some.injEq] at h; subst h
      obtain ⟨n, rfl, _, hw⟩ := DataW.trod_int ht hx
      exact ⟨⟨n, rfl, hw⟩, trivial⟩
    · rename_i fs ht
      split at h
      · rename_i l' hl
        split at h
        · rename_i hc
          simp only [Option.some.injEq] at h; subst h
          have hc' := Nat.eq_of_beq_eq_true hc
          obtain ⟨xs, n, _, _, hlen, hxl, hg⟩ := DataW.trod_struct ht hx
          have := kindsF_sound (m := n) ih fs.toList 0 l' cs xs hl (by omega) (fun i f hf => by
            have hf' : fs[i]? = some f := by simpa using hf
            have hi : i < xs.length := by rw [hxl]; exact (Array.getElem?_eq_some_iff.1 hf').1
            exact ⟨xs[i], by rw [hg i f hf', List.getElem?_eq_getElem hi]⟩)
          rw [List.drop_zero, List.take_of_length_le (by omega)] at this
          exact this
        · cases h
      · cases h
    · rename_i n e ht
      split at h
      · rename_i l' hl
        split at h
        · rename_i hc
          simp only [Bool.and_eq_true] at hc
          simp only [Option.some.injEq] at h; subst h
          have h1 : l'.length = P.cellsOf e := Nat.eq_of_beq_eq_true hc.1
          have h2 : n * l'.length = P.cellsOf t := Nat.eq_of_beq_eq_true hc.2
          obtain ⟨xs, m, _, _, hlen, hxl, hg⟩ := DataW.trod_array ht hx
          have key : ∀ k, k ≤ n → oks (reps k l') (cs.take (k * l'.length)) := by
            intro k
            induction k with
            | zero => intro _; simp [reps, oks]
            | succ k ihk =>
              intro hk
              have o1 := ihk (by omega)
              have hi : k < xs.length := by omega
              have o2 := ih _ _ hl _ _ _ ((hg k (by omega)).trans (List.getElem?_eq_getElem hi))
              rw [← h1] at o2
              have e1 : reps (k + 1) l' = reps k l' ++ l' := by simp [reps, List.replicate_succ', List.flatten_append]
              have e2 : cs.take ((k + 1) * l'.length) = cs.take (k * l'.length) ++ ((cs.drop (k * l'.length)).take l'.length) := by
                rw [Nat.succ_mul, List.take_add]
              rw [e1, e2]
              exact oks_append o1 o2
          have := key n (Nat.le_refl _)
          rw [List.take_of_length_le (by omega)] at this
          exact this
        · cases h
      · cases h
    · cases h
end
/-- An argument: one cell, or some. -/
inductive AK where
  | one (c : CK)
  | agg (cs : List CK)
def rawsOk : List CK → List V → Prop
  | [], [] => True
  | k :: ks, .raw v :: vs => k.ok v ∧ rawsOk ks vs
  | _, _ => False
def argsOk : List AK → List V → Prop
  | [], [] => True
  | .one c :: ks, .raw v :: vs => c.ok v ∧ argsOk ks vs
  | .agg cs :: ks, .agg ws :: vs => rawsOk cs ws ∧ argsOk ks vs
  | _, _ => False
theorem rawsOk_of : ∀ {ks : List CK} {cs : List Value}, oks ks cs → rawsOk ks (cs.map .raw) := by
  intro ks
  induction ks with
  | nil => intro cs h; cases cs <;> simp_all [oks, rawsOk]
  | cons k ks ih =>
    intro cs h
    cases cs with
    | nil => exact h.elim
    | cons c cs => exact ⟨h.1, ih h.2⟩
def argKind (P : Program) (t : TypeId) : Option AK :=
  match P.underlying t with
  | some .bool => some (.one .bool)
  | some (.int k) => some (.one (.int k))
  | some (.struct _) | some (.array _ _) => match kinds P 9 t with
    | some l => some (.agg l)
    | none => none
  | _ => none
def argKinds (P : Program) : List TypeId → Option (List AK)
  | [] => some []
  | t :: ts => match argKind P t, argKinds P ts with
    | some a, some as => some (a :: as)
    | _, _ => none
theorem open_args {H : Type} {enc : TypeId × Value → H} {P : Program} {W : World} {base : Nat} : ∀ {ts : List TypeId} {aks : List AK} {vs : List Value} {ds : List (DataW H)} {p : List MemPlace}, argKinds P ts = some aks →
    (∀ (j : Nat) t v, ts[j]? = some t → vs[j]? = some v → Value.okWide P W .any base t v) → DataW.TrodAll enc P W 0 (fun _ => true) true ts vs ds p →
    ∃ args, argsOk aks args ∧ (∀ ρ, absL ρ args = vs) ∧ bdL 0 args := by
  intro ts
  induction ts with
  | nil =>
    intro aks vs ds p h hv hA
    simp only [argKinds, Option.some.injEq] at h
    subst h
    obtain ⟨rfl, rfl, rfl⟩ := trodAll_nil hA
    exact ⟨[], trivial, fun _ => rfl, trivial⟩
  | cons t ts ih =>
    intro aks vs ds p h hv hA
    obtain ⟨v, vs', d, ds', p', q', rfl, rfl, rfl, h0, r0⟩ := trodAll_cons hA
    simp only [argKinds] at h
    split at h
    · rename_i ak as h1 h2
      simp only [Option.some.injEq] at h
      subst h
      obtain ⟨args, a1, a2, a3⟩ := ih h2 (fun j u x hj hx => hv (j + 1) u x (by simpa using hj) (by simpa using hx)) r0
      have hok := hv 0 t v rfl rfl
      obtain ⟨fuel, hf⟩ := h0
      unfold argKind at h1
      have agg : ∀ {fs : TypeDesc}, (match kinds P 9 t with | some l => some (AK.agg l) | none => none) = some ak → (∃ cs : Array Value, v = .agg cs) → ∃ args, argsOk (ak :: as) args ∧ (∀ ρ, absL ρ args = v :: vs') ∧ bdL 0 args := by
        intro _ hk hagg
        obtain ⟨cs, rfl⟩ := hagg
        split at hk
        · rename_i l hl
          simp only [Option.some.injEq] at hk
          subst hk
          have o := kinds_sound _ _ _ hl _ _ _ hf
          refine ⟨.agg (cs.toList.map .raw) :: args, ⟨rawsOk_of o, a1⟩, fun ρ => ?_, ⟨bdL_raw _ _, a3⟩⟩
          simp [absL, V.abs, absL_raw, a2 ρ]
        · cases hk
      split at h1
      · rename_i ht
        simp only [Option.some.injEq] at h1
        subst h1
        obtain ⟨b, hb, _⟩ := DataW.trod_bool ht hf
        obtain ⟨b', rfl⟩ := okWide_bool ht hok
        exact ⟨.raw (.bool b') :: args, ⟨⟨b', rfl⟩, a1⟩, fun ρ => by simp [absL, V.abs, a2 ρ], ⟨trivial, a3⟩⟩
      · rename_i k ht
        simp only [Option.some.injEq] at h1
        subst h1
        obtain ⟨n, hn, _, hw⟩ := DataW.trod_int ht hf
        obtain ⟨n', rfl⟩ := okWide_int ht hok
        obtain rfl : n' = n := by simpa [Value.cells] using hn
        exact ⟨.raw (.int k n') :: args, ⟨⟨n', rfl, hw⟩, a1⟩, fun ρ => by simp [absL, V.abs, a2 ρ], ⟨trivial, a3⟩⟩
      · rename_i fs ht
        obtain ⟨cs, rfl, _⟩ := okWide_struct ht hok
        exact agg (fs := .bool) h1 ⟨cs, rfl⟩
      · rename_i n e ht
        refine agg (fs := .bool) h1 ?_
        unfold Value.okWide at hok
        rw [ht] at hok
        obtain ⟨cs, rfl, _⟩ := hok
        exact ⟨cs, rfl⟩
      · cases h1
    · cases h

end Go.Proofs.YtllfmafebhifdaaRL
end
section
/- RL, fourteenth text: what is known of a function by hand, as a table's line. -/
namespace Go.Proofs.YtllfmafebhifdaaRL
open Go
set_option linter.unusedVariables false
/-- A call at no store, run whole; what it leaves behind is forgotten. -/
def runV (P : Program) (D : Dh) (n : Nat) (f : FuncId) (args : List V) : RO := match Nat.blt f P.funcs.size with
  | true => (clo P D n).1 f args [] fun r _ => some (r, [])
  | false => none
theorem runV_ok {P : Program} {D : Dh} (hD : DOk P D) (hn : namesOk P = true) (hm : P.follows .mixedOrders = true) {n : Nat} {f : FuncId} {args : List V} {v : V} (h : runV P D n f args = some (.ret v, [])) : CallOk P f args [] fun r _ => r = .ret v :=
  by
    unfold runV at h
    split at h
    · rename_i hlt
      exact (((clo_sound hD hn hm n).1 _ f args [] _ h).call (by simpa using hlt)).mono fun r s h => by cases h; rfl
    · cases h
end Go.Proofs.YtllfmafebhifdaaRL
end
section
/- RL: rows of laws whose arguments go by value, out of a call that is known; rows of numbers within an argument. -/
namespace Go.Proofs.YtllfmafebhifdaaRL
open Go Go.ChangeShapes Go.WideShapes Go.ChangeAt Go.RowKit Go.Proofs.YtllfmafebhifdaaR
set_option linter.unusedVariables false
theorem argsOk_int {k : IntKind} {ks : List AK} {args : List V} (h : argsOk (.one (.int k) :: ks) args) : ∃ n rest, args = .raw (.int k n) :: rest ∧ (Lit.int k n).wf = true ∧ argsOk ks rest := by
  match args, h with
  | .raw v :: vs, ⟨hv, h⟩ => obtain ⟨n, rfl, hn⟩ := hv; exact ⟨n, vs, rfl, hn, h⟩
theorem argsOk_agg {cs : List CK} {ks : List AK} {args : List V} (h : argsOk (.agg cs :: ks) args) : ∃ ws rest, args = .agg ws :: rest ∧ rawsOk cs ws ∧ argsOk ks rest := by
  match args, h with
  | .agg ws :: vs, ⟨hv, h⟩ => exact ⟨ws, vs, rfl, hv, h⟩
theorem argsOk_nil {args : List V} (h : argsOk [] args) : args = [] := by
  match args, h with
  | [], _ => rfl
theorem rawsOk_bool {ks : List CK} {ws : List V} (h : rawsOk (.bool :: ks) ws) : ∃ b rest, ws = .raw (.bool b) :: rest ∧ rawsOk ks rest := by
  match ws, h with
  | .raw v :: vs, ⟨hv, h⟩ => obtain ⟨b, rfl⟩ := hv; exact ⟨b, vs, rfl, h⟩
theorem rawsOk_nil {ws : List V} (h : rawsOk [] ws) : ws = [] := by
  match ws, h with
  | [], _ => rfl
/-- A row of numbers of a kind. -/
def numsV (k : IntKind) (x : Nat → Int) (m : Nat) : List V := (List.range m).map fun i => .raw (.int k (x i))
theorem numsV_succ (k : IntKind) (x : Nat → Int) (m : Nat) : numsV k x (m + 1) = .raw (.int k (x 0)) :: numsV k (fun i => x (i + 1)) m := by
  simp [numsV, List.range_succ_eq_map]
theorem rawsOk_nums {k : IntKind} {ks : List CK} : ∀ {m : Nat} {ws : List V}, rawsOk (List.replicate m (.int k) ++ ks) ws → ∃ x : Nat → Int, (∀ i, i < m → (Lit.int k (x i)).wf = true) ∧ ∃ ws', rawsOk ks ws' ∧ ws = numsV k x m ++ ws' := by
  intro m
  induction m with
  | zero => intro ws h; exact ⟨fun _ => 0, fun i hi => absurd hi (by omega), ws, by simpa using h, by simp [numsV]⟩
  | succ m ih =>
    intro ws h
    rw [List.replicate_succ, List.cons_append] at h
    match ws, h with
    | .raw v :: ws, ⟨hv, h⟩ =>
      obtain ⟨n, rfl, hn⟩ := hv
      obtain ⟨x, hx, ws', h', e⟩ := ih h
      refine ⟨fun i => match i with | 0 => n | i + 1 => x i, fun i hi => ?_, ws', h', ?_⟩
      · cases i with
        | zero => exact hn
        | succ i => exact hx i (by omega)
      · rw [numsV_succ, e]; rfl
def readNums (k : IntKind) (m : Nat) : List V → Option (List Int × List V) :=
  Nat.rec (fun l => some ([], l)) (fun _ rec l => match l with
    | .raw (.int k' n) :: l => match kindEq k' k with
      | true => match rec l with
        | some (xs, r) => some (n :: xs, r)
        | none => none
      | false => none
    | _ => none) m
theorem readNums_succ {k : IntKind} {m : Nat} (cs : List V) : readNums k (m + 1) cs = (match cs with
    | .raw (.int k' n) :: l => match kindEq k' k with
      | true => match readNums k m l with
        | some (xs, r) => some (n :: xs, r)
        | none => none
      | false => none
    | _ => none) := rfl
theorem readNums_eq {k : IntKind} : ∀ {m : Nat} {cs : List V} {xs : List Int} {r : List V}, readNums k m cs = some (xs, r) → cs = numsV k (fun i => xs.getD i 0) m ++ r := by
  intro m
  induction m with
  | zero =>
    intro cs xs r h
    have h : some (([] : List Int), cs) = some (xs, r) := h
    cases h
    simp [numsV]
  | succ m ih =>
    intro cs xs r h
    rw [readNums_succ] at h
    split at h
    · rename_i k' n l
      split at h
      · rename_i hk
        have hk := kindEq_eq hk
        subst hk
        split at h
        · rename_i ys r' hr
          cases h
          rw [numsV_succ, ih hr]; rfl
        · cases h
      · cases h
    · cases h
end Go.Proofs.YtllfmafebhifdaaRL
end
section
/- RL, fifteenth text: a law's function, with the bodies of what it calls, and no table's line, taken in. -/
namespace Go.Proofs.YtllfmafebhifdaaRL
open Go
set_option linter.unusedVariables false
set_option linter.unusedSimpArgs false
/-- What a call comes to: one answer, or one of two by a test. -/
inductive Ans where
  | one (r : Res) (s : Sto)
  | br (b : Bool) (x y : Ans)
  | no
def Ans.go {R : Type} (no : R) (K : Res → Sto → R) : Ans → R
  | .one r s => K r s
  | .br b x y => Br b (x.go no K) (y.go no K)
  | .no => no
def Ans.is : Ans → Res → Sto → Prop
  | .one r s, r', s' => r' = r ∧ s' = s
  | .br b x y, r', s' => (b = true ∧ x.is r' s') ∨ (b = false ∧ y.is r' s')
  | .no, _, _ => False
/-- Its tests lead to an answer. -/
def Ans.fine : Ans → Prop
  | .one _ _ => True
  | .br b x y => (b = true ∧ x.fine) ∨ (b = false ∧ y.fine)
  | .no => False
theorem Ans.out {R : Type} {no : R} {T : R → Prop} (hno : ¬ T no) {K : Res → Sto → R} : ∀ {a : Ans}, T (a.go no K) → a.fine ∧ ∀ {r s}, a.is r s → T (K r s)
  | .one r s, h => ⟨trivial, fun ⟨h1, h2⟩ => by subst h1 h2; exact h⟩
  | .br b x y, h => by
    rcases Br.out (T := T) h with ⟨hb, h⟩ | ⟨hb, h⟩
    · obtain ⟨h1, h2⟩ := Ans.out hno h
      refine ⟨.inl ⟨hb, h1⟩, fun hi => ?_⟩
      rcases hi with ⟨kb, hi⟩ | ⟨kb, hi⟩
      · exact h2 hi
      · rw [hb] at kb; cases kb
    · obtain ⟨h1, h2⟩ := Ans.out hno h
      refine ⟨.inr ⟨hb, h1⟩, fun hi => ?_⟩
      rcases hi with ⟨kb, hi⟩ | ⟨kb, hi⟩
      · rw [hb] at kb; cases kb
      · exact h2 hi
  | .no, h => (hno h).elim
theorem Ans.pick {R : Type} {no : R} {T : R → Prop} (hno : ¬ T no) {α : Type} {K : Res → Sto → R} : ∀ {a : Ans}, T (a.go no K) → ∃ r s, T (K r s) ∧ ∀ K0 : Res → Sto → Option α, a.go none K0 = K0 r s
  | .one r s, h => ⟨r, s, h, fun _ => rfl⟩
  | .br b x y, h => by
    cases b with
    | true => exact Ans.pick hno (a := x) h
    | false => exact Ans.pick hno (a := y) h
  | .no, h => (hno h).elim
/-- What is known of functions, tests among it. -/
abbrev Eh := FuncId → List V → Sto → Option Ans
def EOk (P : Program) (E : Eh) : Prop := ∀ f args s a, E f args s = some a → a.fine → CallOk P f args s fun r s' => a.is r s'
def noE : Eh := fun _ _ _ => none
theorem noE_ok {P : Program} : EOk P noE := fun _ _ _ _ h _ => by cases h
/-- More is known. -/
def addE (f0 : FuncId) (g : List V → Sto → Option Ans) (E : Eh) : Eh := fun f args s => match Nat.beq f f0 with
  | true => g args s
  | false => E f args s
theorem addE_ok {P : Program} {f0 : FuncId} {g : List V → Sto → Option Ans} {E : Eh} (hE : EOk P E) (hg : ∀ args s a, g args s = some a → a.fine → CallOk P f0 args s fun r s' => a.is r s') : EOk P (addE f0 g E) := by
  intro f args s a h hfi
  unfold addE at h
  split at h
  · rename_i hf
    obtain rfl : f = f0 := Nat.eq_of_beq_eq_true hf
    exact hg _ _ _ h hfi
  · exact hE _ _ _ _ h hfi
/-- A function of flat arguments and a flat result, told by g. -/
def specE (f0 : FuncId) (g : List V → Option V) (E : Eh) : Eh := addE f0 (fun args s => match g args with
  | some v => some (.one (.ret v) s)
  | none => none) E
theorem specE_ok {P : Program} {f0 : FuncId} {g : List V → Option V} {E : Eh} (hE : EOk P E) (hg : ∀ args v, g args = some v → bdL 0 args ∧ v.bd 0 ∧ CallOk P f0 args [] fun r _ => r = .ret v) : EOk P (specE f0 g E) := by
  refine addE_ok hE fun args s a h _ => ?_
  split at h
  · rename_i v hv
    cases h
    obtain ⟨h1, h2, h3⟩ := hg args v hv
    exact h3.anywhere h1 h2
  · cases h
def gStep {R : Type} (no : R) (P : Program) (D : Eh) (p : Ch R × Lh R) : Ch R × Lh R :=
  (fun f args s K => match D f args s with
    | some a => a.go no K
    | none => match P.funcs[f]? with
      | some fn => match fn.body with
        | some c => match Nat.ble args.length fn.ntmps with
          | true => Ev no P p.1 p.2 c ⟨fn.ntmps, zipArgs 0 args, s⟩ (bodyK no P fn K)
          | false => no
        | none => no
      | none => rnd no P p.1 p.2 (Nat.sub (Nat.sub f P.funcs.size) 1) args s K,
  fun c st K => match c with
    | .loop b => Ev no P p.1 p.2 b st fun e st' => match e with
      | .normal => p.2 (.loop b) st' K
      | e => K e st'
    | .region _ ops true => match st with
      | ⟨n, e, s⟩ => drwDT no P p.1 (onlyC no P p.1) ops.toList K n e s
    | .rangeFunc g ps asg body => match st with
      | ⟨n, e, s⟩ => rfL no P p.1 g ps asg body n e s K
    | _ => no)
def gClo {R : Type} (no : R) (P : Program) (D : Eh) (n : Nat) : Ch R × Lh R :=
  Nat.rec (fun _ _ _ _ => no, fun _ _ _ => no) (fun _ p => gStep no P D p) n
theorem gStep_pick {P : Program} {D : Eh} {R : Type} {no : R} {T : R → Prop} {α : Type} (hno : ¬ T no) {p : Ch R × Lh R} {p0 : Ch (Option α) × Lh (Option α)} (hC : PickC T p.1 p0.1) (hL : PickL T p.2 p0.2) : PickC T (gStep no P D p).1 (gStep none P D p0).1 ∧ PickL T (gStep no P D p).2 (gStep none P D p0).2 := by
  refine ⟨fun f args s K h => ?_, fun c st K h => ?_⟩
  · simp only [gStep] at h ⊢
    cases hd : D f args s with
    | some x =>
      rw [hd] at h
      exact Ans.pick hno h
    | none =>
      rw [hd] at h
      simp only at h ⊢
      cases hf : P.funcs[f]? with
      | none =>
        rw [hf] at h
        exact rnd_pick hno hC hL h
      | some fn =>
        rw [hf] at h
        simp only at h ⊢
        cases hc : fn.body with
        | none => rw [hc] at h; exact (hno h).elim
        | some c =>
          rw [hc] at h
          simp only at h ⊢
          cases hl : Nat.ble args.length fn.ntmps with
          | false => rw [hl] at h; exact (hno h).elim
          | true =>
            rw [hl] at h
            obtain ⟨x, st', h1, h2⟩ := Ev_pick hno hC hL h
            obtain ⟨r, s', h3, h4⟩ := bodyK_pick (α := α) hno h1
            exact ⟨r, s', h3, fun K0 => by simp only [h2]; exact h4 K0⟩
  · simp only [gStep] at h ⊢
    cases c with
    | loop b =>
      obtain ⟨x, st', h1, h2⟩ := Ev_pick hno hC hL h
      cases x
      · obtain ⟨x, st'', h3, h4⟩ := hL _ _ _ h1
        exact ⟨x, st'', h3, fun K0 => by simp only [h2]; exact h4 K0⟩
      all_goals exact ⟨_, _, h1, fun K0 => by simp only [h2]⟩
    | region id ops draw =>
      cases draw with
      | false => exact (hno h).elim
      | true =>
        obtain ⟨n, e, s⟩ := st
        exact drwDT_pick hno hC (onlyC_pick hno hC) h
    | rangeFunc g ps asg body =>
      obtain ⟨n, e, s⟩ := st
      exact rfL_pick (L := p.2) (L0 := p0.2) hno hC h
    | _ => exact (hno h).elim
theorem gClo_pick {P : Program} {D : Eh} {R : Type} {no : R} {T : R → Prop} {α : Type} (hno : ¬ T no) : ∀ n, PickC T (gClo no P D n).1 (gClo (none : Option α) P D n).1 ∧ PickL T (gClo no P D n).2 (gClo (none : Option α) P D n).2 := by
  intro n
  induction n with
  | zero => exact ⟨fun f args s K h => (hno h).elim, fun c st K h => (hno h).elim⟩
  | succ n ih => exact gStep_pick hno ih.1 ih.2
/-- What the functions come to, as a table. -/
def gTab (P : Program) (D : Eh) (n : Nat) : Dh := fun f args s => onlyC none P (gClo (none : RO) P D n).1 f args s fun r s' => some (r, s')
theorem gTab_pick {P : Program} {D : Eh} {R : Type} {no : R} {T : R → Prop} (hno : ¬ T no) (n : Nat) : PickD T (onlyC no P (gClo no P D n).1) (gTab P D n) := by
  intro f args s K h
  obtain ⟨r, s', h1, h2⟩ := onlyC_pick hno (gClo_pick (α := Res × Sto) hno n).1 f args s K h
  exact ⟨r, s', h1, h2 _⟩
theorem gClo_sound {P : Program} {D : Eh} (hD : EOk P D) (hn : namesOk P = true) (hm : P.follows .mixedOrders = true) : ∀ n {R : Type} {no : R} {T : R → Prop} (hno : ¬ T no),
    (∀ f args s K, T ((gClo no P D n).1 f args s K) → TgOk P f args s fun r s => T (K r s)) ∧ (∀ c st K, T ((gClo no P D n).2 c st K) → Lu P c st fun e s => T (K e s)) := by
  intro n
  induction n with
  | zero => intro R no T hno; exact ⟨fun f args s K h => (hno h).elim, fun c st K h => (hno h).elim⟩
  | succ n ih =>
    intro R no T hno
    have hQ : DOk P (gTab P D n) := by
      intro f args s r s' h
      unfold gTab onlyC at h
      split at h
      · rename_i hlt
        exact (((ih (T := fun x => x = some (r, s')) (no := none) (by simp)).1 _ _ _ _ h).call (by simpa using hlt)).mono fun r2 s2 h2 => by
          simp only [Option.some.injEq, Prod.mk.injEq] at h2
          exact h2
      · cases h
    obtain ⟨ihC, ihL⟩ := ih hno
    have hev : ∀ c st K, T (Ev no P (gClo no P D n).1 (gClo no P D n).2 c st K) → CodeOk P c st fun e s => T (K e s) := fun c st K h =>
      Ev.sound hno (fun _ _ _ _ h => ihC _ _ _ _ h) (fun c st K h => Lu.sound c st _ (ihL c st K h)) c st K h
    refine ⟨fun f args s K h => ?_, fun c st K h => ?_⟩
    · have h : T (match D f args s with
        | some a => a.go no K
        | none => match P.funcs[f]? with
          | some fn => match fn.body with
            | some c => match Nat.ble args.length fn.ntmps with
              | true => Ev no P (gClo no P D n).1 (gClo no P D n).2 c ⟨fn.ntmps, zipArgs 0 args, s⟩ (bodyK no P fn K)
              | false => no
            | none => no
          | none => rnd no P (gClo no P D n).1 (gClo no P D n).2 (Nat.sub (Nat.sub f P.funcs.size) 1) args s K) := h
      split at h
      · rename_i a hd
        obtain ⟨h1, h2⟩ := Ans.out hno h
        exact ((hD _ _ _ _ hd h1).mono fun r2 s2 h3 => h2 h3).tg
      · split at h
        · rename_i fn hf
          split at h
          · rename_i c hc
            split at h
            · rename_i hl
              exact (CallOk.of_code hno hf (names_at hn hf) hc hl (hev _ _ _ h)).tg
            · exact (hno h).elim
          · exact (hno h).elim
        · rename_i hf
          have hge : P.funcs.size ≤ f := Array.getElem?_eq_none_iff.1 hf
          exact ⟨fun hlt => absurd hlt (Nat.not_lt.2 hge), fun _ => rnd_sound hno hev h⟩
    · cases c with
      | loop b =>
        refine LoopOk.next ?_
        have := hev _ _ _ (show T (Ev no P (gClo no P D n).1 (gClo no P D n).2 b st fun e st' => match e with | .normal => (gClo no P D n).2 (.loop b) st' K | e => K e st') from h)
        refine ⟨fun r B Δ ρ a w hs hf => wpIn_mono (this.run r B Δ ρ a w hs hf) ?_⟩
        rintro e a' w' ⟨x, st', ρ', Δ', h1, h2, h3, h4, h5⟩
        refine ⟨x, st', ρ', Δ', h1, ?_, h3, h4, h5⟩
        cases x
        · have h4 : LoopOk P b st' fun e s => T (K e s) := ihL (.loop b) st' K h2
          exact h4
        all_goals exact h2
      | region id ops draw =>
        cases draw with
        | false => exact (hno h).elim
        | true =>
          obtain ⟨sn, se, ss⟩ := st
          exact drwD_sound hno (st := ⟨sn, se, ss⟩) (fun _ _ _ _ h => ihC _ _ _ _ h) (gTab_pick hno n) hQ hm h
      | rangeFunc g ps asg body =>
        obtain ⟨sn, se, ss⟩ := st
        exact range_sound hno (fun _ _ _ _ h => ihC _ _ _ _ h) h
      | _ => exact (hno h).elim
/-- A run at no store, branching allowed. -/
def runI (P : Program) (D : Eh) (n : Nat) (f : FuncId) (args : List V) : Option V := match Nat.blt f P.funcs.size with
  | true => (gClo none P D n).1 f args [] fun r _ => match r with
    | .ret v => some v
    | _ => none
  | false => none
theorem runI_ok {P : Program} {D : Eh} (hD : EOk P D) (hn : namesOk P = true) (hm : P.follows .mixedOrders = true) {n : Nat} {f : FuncId} {args : List V} {v : V} (h : runI P D n f args = some v) : CallOk P f args [] fun r _ => r = .ret v := by
  unfold runI at h
  split at h
  case h_2 => cases h
  rename_i hlt
  exact (((gClo_sound hD hn hm n (T := fun x => x = some v) (by simp)).1 _ _ _ _ h).call (by simpa using hlt)).mono fun r s h => by
    cases r with
    | ret u => exact congrArg Res.ret (Option.some.inj h)
    | pan u => cases h
/-- Arguments that stand for the same values. -/
theorem CallOk.same {P : Program} {f : FuncId} {args args' : List V} {K : Res → Sto → Prop} (ha : ∀ ρ, absL ρ args = absL ρ args') (hb : bdL 0 args') (h : CallOk P f args' [] K) : CallOk P f args [] K :=
  ⟨h.plain, fun ρ w h1 h2 h3 => by rw [ha ρ]; exact h.run ρ w h1 h2 hb⟩
end Go.Proofs.YtllfmafebhifdaaRL
end
