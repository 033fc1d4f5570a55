/- Parts of the proof, one behind the other. -/
import Derived.Calls
import Derived.Scope
import Derived.Below
import Derived.Tactics
import Derived.Laws.Cells
import Derived.KernelRfl
import Derived.IntWalk
import Derived.TacticsIn
import Derived.OrdersIn
import Derived.RangeFuncLeaves
import Derived.Laws.StructEq
section
/- RL, a logic of relative places: code is run on values whose places are numbered by the proof (V), over a store of the blocks that are known (Sto); whatever else there is in memory does not matter. 'Ev' runs code by computation alone; 'Ev.sound' says that what it comes to is what the machine comes to. No law of any program stands here. -/
namespace Go.Proofs.YtalgegmcllcnmaaRL
open Go
set_option linter.unusedVariables false
set_option linter.unusedSimpArgs false
/-- A value: 'raw' as it is; a place is the number of a block of the store, and an offset. -/
inductive V where
  | raw (v : Value)
  /-- A number told by its rests: m, taken times and added to, innermost last. -/
  | md (k : IntKind) (m : Nat) (l : List (Nat × Nat))
  | ptr (i off : Nat)
  | sl (i off len cap : Nat)
  | mp (i : Nat)
  /-- Cell f of element k (of z cells each) of block i. -/
  | el (i z k f : Nat)
  /-- A slice of block i from element k (of z cells each) on. -/
  | sle (i z k len cap : Nat)
  /-- A slice of n whose block is i's, from element e (of z cells) on; k's number is the room, of which e is gone. -/
  | lse (i k z e n : Nat)
  /-- What is left behind the last one of such a slice of l. -/
  | lend (i k o e l z : Nat)
  /-- The yield of the loop whose record is i's. -/
  | yld (i : Nat)
  /-- A slice of n whose block is i's, from off on; k's number is the room, of which e is gone. -/
  | lst (i k off e n : Nat)
  | fn (f : Fn) (first captured : List V)
  | ifc (t : TypeId) (v : V)
  | agg (cs : List V)
  | tup (vs : List V)
  deriving Inhabited
def mdVal (m : Nat) : List (Nat × Nat) → Nat
  | [] => m
  | p :: l => mdVal m l * p.2 + p.1
/-- Where the blocks of the store lie in memory. -/
abbrev Rho := Nat → Nat × Nat
mutual
def V.abs (ρ : Rho) : V → Value
  | .raw v => v
  | .md k m l => .int k (mdVal m l : Nat)
  | .ptr i o => .pointer (some ⟨(ρ i).1, (ρ i).2 + o, none⟩)
  | .sl i o n c => .slice (some ⟨(ρ i).1, (ρ i).2 + o, none⟩) n c
  | .mp i => .map (some (ρ i).1)
  | .yld i => .func (.yield (ρ i).1) #[] #[]
  | .lst i k o e n => .slice (some ⟨(ρ i).1, (ρ i).2 + o, none⟩) n ((ρ k).1 - e)
  | .el i z k f => .pointer (some ⟨(ρ i).1, (ρ i).2 + (k * z + f), none⟩)
  | .sle i z k n c => .slice (some ⟨(ρ i).1, (ρ i).2 + k * z, none⟩) n c
  | .lse i k z e n => .slice (some ⟨(ρ i).1, (ρ i).2 + e * z, none⟩) n ((ρ k).1 - e)
  | .lend i k o e l z => .slice (some ⟨(ρ i).1, (ρ i).2 + (if (ρ k).1 - e = l then o else o + l * z), none⟩) 0 ((ρ k).1 - e - l)
  | .fn f a b => .func f (absL ρ a).toArray (absL ρ b).toArray
  | .ifc t v => .iface t (v.abs ρ)
  | .agg cs => .agg (absL ρ cs).toArray
  | .tup vs => .tuple (absL ρ vs).toArray
def absL (ρ : Rho) : List V → List Value
  | [] => []
  | v :: vs => v.abs ρ :: absL ρ vs
end
theorem absL_map (ρ : Rho) (l : List V) : absL ρ l = l.map (V.abs ρ) := by
  induction l with
  | nil => simp [absL]
  | cons v l ih => simp [absL, ih]
mutual
/-- All places of a value lie below block n. -/
def V.bd (n : Nat) : V → Prop
  | .raw _ => True
  | .md _ _ _ => True
  | .ptr i _ => i < n
  | .sl i _ _ _ => i < n
  | .mp i => i < n
  | .yld i => i < n
  | .lst i k _ _ _ => i < n ∧ k < n
  | .el i _ _ _ => i < n
  | .sle i _ _ _ _ => i < n
  | .lse i k _ _ _ => i < n ∧ k < n
  | .lend i k _ _ _ _ => i < n ∧ k < n
  | .fn _ a b => bdL n a ∧ bdL n b
  | .ifc _ v => v.bd n
  | .agg cs => bdL n cs
  | .tup vs => bdL n vs
def bdL (n : Nat) : List V → Prop
  | [] => True
  | v :: vs => v.bd n ∧ bdL n vs
end
theorem bdL_iff {n : Nat} {l : List V} : bdL n l ↔ ∀ v ∈ l, v.bd n := by
  induction l with
  | nil => simp [bdL]
  | cons v l ih => simp [bdL, ih]
mutual
theorem V.abs_congr {ρ ρ' : Rho} {n : Nat} (h : ∀ i, i < n → ρ' i = ρ i) : ∀ (v : V), v.bd n → v.abs ρ' = v.abs ρ
  | .raw v, _ => by simp [V.abs]
  | .md k m l, _ => by simp [V.abs]
  | .ptr i o, hb => by simp only [V.abs]; rw [h i (by simpa [V.bd] using hb)]
  | .sl i o n c, hb => by simp only [V.abs]; rw [h i (by simpa [V.bd] using hb)]
  | .mp i, hb => by simp only [V.abs]; rw [h i (by simpa [V.bd] using hb)]
  | .yld i, hb => by simp only [V.abs]; rw [h i (by simpa [V.bd] using hb)]
  | .lst i k o e m, hb => by simp only [V.bd] at hb; simp only [V.abs]; rw [h i hb.1, h k hb.2]
  | .el i z k f, hb => by simp only [V.abs]; rw [h i (by simpa [V.bd] using hb)]
  | .sle i z k n c, hb => by simp only [V.abs]; rw [h i (by simpa [V.bd] using hb)]
  | .lse i k z e m, hb => by simp only [V.bd] at hb; simp only [V.abs]; rw [h i hb.1, h k hb.2]
  | .lend i k o e l z, hb => by simp only [V.bd] at hb; simp only [V.abs]; rw [h i hb.1, h k hb.2]
  | .fn f a b, hb => by simp only [V.bd] at hb; simp only [V.abs]; rw [absL_congr h a hb.1, absL_congr h b hb.2]
  | .ifc t v, hb => by simp only [V.bd] at hb; simp only [V.abs]; rw [V.abs_congr h v hb]
  | .agg cs, hb => by simp only [V.bd] at hb; simp only [V.abs]; rw [absL_congr h cs hb]
  | .tup vs, hb => by simp only [V.bd] at hb; simp only [V.abs]; rw [absL_congr h vs hb]
theorem absL_congr {ρ ρ' : Rho} {n : Nat} (h : ∀ i, i < n → ρ' i = ρ i) : ∀ (l : List V), bdL n l → absL ρ' l = absL ρ l
  | [], _ => by simp [absL]
  | v :: l, hb => by simp only [bdL] at hb; simp only [absL]; rw [V.abs_congr h v hb.1, absL_congr h l hb.2]
end
mutual
theorem V.bd_mono {n m : Nat} (h : n ≤ m) : ∀ (v : V), v.bd n → v.bd m
  | .raw v, _ => by simp [V.bd]
  | .md k m l, _ => by simp [V.bd]
  | .ptr i o, hb => by simp only [V.bd] at hb ⊢; omega
  | .sl i o _ c, hb => by simp only [V.bd] at hb ⊢; omega
  | .mp i, hb => by simp only [V.bd] at hb ⊢; omega
  | .yld i, hb => by simp only [V.bd] at hb ⊢; omega
  | .lst i k o e m, hb => by simp only [V.bd] at hb ⊢; omega
  | .el i z k f, hb => by simp only [V.bd] at hb ⊢; omega
  | .sle i z k _ c, hb => by simp only [V.bd] at hb ⊢; omega
  | .lse i k z e m, hb => by simp only [V.bd] at hb ⊢; omega
  | .lend i k o e l z, hb => by simp only [V.bd] at hb ⊢; omega
  | .fn f a b, hb => by simp only [V.bd] at hb ⊢; exact ⟨bdL_mono h a hb.1, bdL_mono h b hb.2⟩
  | .ifc t v, hb => by simp only [V.bd] at hb ⊢; exact V.bd_mono h v hb
  | .agg cs, hb => by simp only [V.bd] at hb ⊢; exact bdL_mono h cs hb
  | .tup vs, hb => by simp only [V.bd] at hb ⊢; exact bdL_mono h vs hb
theorem bdL_mono {n m : Nat} (h : n ≤ m) : ∀ (l : List V), bdL n l → bdL m l
  | [], _ => by simp [bdL]
  | v :: l, hb => by simp only [bdL] at hb ⊢; exact ⟨V.bd_mono h v hb.1, bdL_mono h l hb.2⟩
end
def find : List (Nat × V) → Nat → Option V
  | [], _ => none
  | (k, v) :: l, t => match Nat.beq k t with
    | true => some v
    | false => find l t
/-- A column of an array: a kind, and what stands at each place; or nothing is known. -/
inductive Col where
  | int (k : IntKind) (f : Nat → Int)
  | bool (f : Nat → Bool)
  | str (f : Nat → ByteArray)
  | any
  deriving Inhabited
def Col.at : Col → Nat → Option Value
  | .int k f, j => some (.int k (f j))
  | .bool f, j => some (.bool (f j))
  | .str f, j => some (.string (f j))
  | .any, _ => none
/-- An array's block: only read; its own; its own with more room, k's number of elements. -/
inductive AM where
  | ro
  | own
  | grow (k : Nat)
  deriving Inhabited
/-- Cells hold n elements of such columns. -/
def holdsA (cols : List Col) (n : Nat) (cs : List Value) : Prop := ∀ (j c : Nat) (col : Col) (u : Value), j < n → cols[c]? = some col → col.at j = some u → cs[j * cols.length + c]? = some u
/-- A block of the store: one of the run's own; one that is only read, from a place on; one that is not known any more. -/
inductive Ent where
  | own (cs : List V) (elem : TypeId)
  | ro (cs : List V)
  | map (es : List (V × V × Nat)) (clock : Nat)
  /-- One of its own of which the first cells are known; k's number is how many elements of that size it has room for. -/
  | lst (cs : List V) (elem : TypeId) (k size : Nat)
  /-- The record of a loop over a function: what its frame had; the temporaries of a round's values; the code; the jump that a round has left. -/
  | lp (e : List (Nat × V)) (n : Nat) (ps : Array Tmp) (asg body : Code) (pend : Option Code)
  /-- Elements of flat cells, told by columns. -/
  | arr (m : AM) (cols : List Col) (n : Nat) (elem : TypeId)
  | no
  deriving Inhabited
abbrev Sto := List Ent
def Ent.isOwn : Ent → Bool
  | .own _ _ | .map _ _ | .lst _ _ _ _ | .lp _ _ _ _ _ _ => true
  | .arr m _ _ _ => match m with
    | .ro => false
    | _ => true
  | _ => false
def Ent.live : Ent → Bool
  | .no => false
  | _ => true
def Ent.cells : Ent → Option (List V)
  | .own cs _ | .ro cs | .lst cs _ _ _ => some cs
  | _ => none
def Ent.bd (n : Nat) : Ent → Prop
  | .own cs _ | .ro cs => bdL n cs
  | .lst cs _ k _ => bdL n cs ∧ k < n
  | .map es _ => ∀ e ∈ es, e.1.bd n ∧ e.2.1.bd n
  | .lp e _ _ _ _ _ => ∀ t v, find e t = some v → v.bd n
  | .arr m _ _ _ => match m with
    | .grow k => k < n
    | _ => True
  | .no => True
def absE (ρ : Rho) (e : V × V × Nat) : MapEntry := { key := e.1.abs ρ, val := e.2.1.abs ρ, born := e.2.2 }
/-- What memory holds of a block. -/
def RepE (ρ : Rho) (w : World) (i : Nat) : Ent → Prop
  | .own cs t => w.heap[(ρ i).1]? = some (.cells (absL ρ cs).toArray t (0, 0)) ∧ (ρ i).2 = 0
  | .ro cs => (∃ a t x, w.heap[(ρ i).1]? = some (.cells a t x)) ∧ ∀ j v, cs[j]? = some v → w.cell? ⟨(ρ i).1, (ρ i).2 + j, none⟩ = some (v.abs ρ)
  | .map es c => w.heap[(ρ i).1]? = some (.map (es.map (absE ρ)).toArray c)
  | .lst cs t k z => ∃ rest : List Value, w.heap[(ρ i).1]? = some (.cells (absL ρ cs ++ rest).toArray t (0, 0)) ∧ (ρ i).2 = 0 ∧ cs.length + rest.length = (ρ k).1 * z
  | .lp e n ps asg body pend => ∃ r : Loop, w.heap[(ρ i).1]? = some (.loop r) ∧ r.state = (match pend with | none => .ready | some _ => .done) ∧ r.pending = pend ∧ r.params = ps ∧ r.assign = asg ∧ r.body = body ∧ r.tmps.size = n ∧ ∀ t v, find e t = some v → r.tmps[t]? = some (v.abs ρ)
  | .arr m cols n t => ∃ cs : List Value, cs.length = n * cols.length ∧ (∀ v ∈ cs, v.oneCell' = true) ∧ holdsA cols n cs ∧ match m with
    | .ro => (∃ a t x, w.heap[(ρ i).1]? = some (.cells a t x)) ∧ ∀ j v, cs[j]? = some v → w.cell? ⟨(ρ i).1, (ρ i).2 + j, none⟩ = some v
    | .own => w.heap[(ρ i).1]? = some (.cells cs.toArray t (0, 0)) ∧ (ρ i).2 = 0
    | .grow k => ∃ rest : List Value, w.heap[(ρ i).1]? = some (.cells (cs ++ rest).toArray t (0, 0)) ∧ (ρ i).2 = 0 ∧ cs.length + rest.length = (ρ k).1 * cols.length
  | .no => True
/-- An array as plain cells. -/
def flatE (m : AM) (cs : List Value) (t : TypeId) (z : Nat) : Ent :=
  match m with
  | .ro => .ro (cs.map .raw)
  | .own => .own (cs.map .raw) t
  | .grow k => .lst (cs.map .raw) t k z
theorem absL_raws (ρ : Rho) (l : List Value) : absL ρ (l.map .raw) = l := by
  induction l with
  | nil => simp [absL]
  | cons v l ih => simp only [List.map_cons, absL, ih, V.abs]
theorem repE_arr {ρ : Rho} {w : World} {i : Nat} {m : AM} {cols : List Col} {n : Nat} {t : TypeId} : RepE ρ w i (.arr m cols n t) ↔ ∃ cs : List Value, cs.length = n * cols.length ∧ (∀ v ∈ cs, v.oneCell' = true) ∧ holdsA cols n cs ∧ RepE ρ w i (flatE m cs t cols.length) := by
  constructor
  · rintro ⟨cs, h1, h2, h3, h4⟩
    refine ⟨cs, h1, h2, h3, ?_⟩
    cases m with
    | ro =>
      refine ⟨h4.1, fun j v hj => ?_⟩
      rw [List.getElem?_map] at hj
      obtain ⟨u, hu, rfl⟩ := Option.map_eq_some_iff.1 hj
      exact h4.2 j u hu
    | own => exact ⟨by rw [absL_raws]; exact h4.1, h4.2⟩
    | grow k =>
      obtain ⟨rest, g1, g2, g3⟩ := h4
      exact ⟨rest, by rw [absL_raws]; exact g1, g2, by rw [List.length_map]; exact g3⟩
  · rintro ⟨cs, h1, h2, h3, h4⟩
    refine ⟨cs, h1, h2, h3, ?_⟩
    cases m with
    | ro =>
      refine ⟨h4.1, fun j v hj => ?_⟩
      have := h4.2 j (.raw v) (by rw [List.getElem?_map, hj]; rfl)
      exact this
    | own => have := h4.1; rw [absL_raws] at this; exact ⟨this, h4.2⟩
    | grow k =>
      obtain ⟨rest, g1, g2, g3⟩ := h4
      rw [absL_raws] at g1
      rw [List.length_map] at g3
      exact ⟨rest, g1, g2, g3⟩
structure Rep (ρ : Rho) (s : Sto) (w : World) : Prop where
  ent : ∀ i e, s[i]? = some e → RepE ρ w i e
  sep : ∀ i j e f, s[i]? = some e → s[j]? = some f → e.isOwn = true → f.live = true → i ≠ j → (ρ i).1 ≠ (ρ j).1
def sbd (s : Sto) : Prop := ∀ (i : Nat) (e : Ent), s[i]? = some e → e.bd s.length
/-- What a step may do: it changes the store's own blocks alone, and makes new ones. -/
structure Ext (s : Sto) (ρ : Rho) (w : World) (s' : Sto) (ρ' : Rho) (w' : World) : Prop where
  len : s.length ≤ s'.length
  same : ∀ i, i < s.length → ρ' i = ρ i
  own : ∀ (i : Nat) e', s'[i]? = some e' → e'.isOwn = true → (∃ j e, s[j]? = some e ∧ e.isOwn = true ∧ (ρ j).1 = (ρ' i).1) ∨ w.heap.size ≤ (ρ' i).1
  os : w'.os = w.os
  tape : w'.tape = w.tape
  output : w'.output = w.output
  size : w.heap.size ≤ w'.heap.size
  block : ∀ b, b < w.heap.size → (∀ i e, s[i]? = some e → e.isOwn = true → (ρ i).1 ≠ b) → w'.heap[b]? = w.heap[b]?
theorem Ext.refl (s : Sto) (ρ : Rho) (w : World) : Ext s ρ w s ρ w :=
  ⟨Nat.le_refl _, fun _ _ => rfl, fun i e h ho => .inl ⟨i, e, h, ho, rfl⟩, rfl, rfl, rfl, Nat.le_refl _, fun _ _ _ => rfl⟩
theorem Ext.trans {s s' s'' : Sto} {ρ ρ' ρ'' : Rho} {w w' w'' : World} (h : Ext s ρ w s' ρ' w') (k : Ext s' ρ' w' s'' ρ'' w'') : Ext s ρ w s'' ρ'' w'' where
  len := Nat.le_trans h.len k.len
  same i hi := (k.same i (Nat.lt_of_lt_of_le hi h.len)).trans (h.same i hi)
  own i e' he ho := by
    rcases k.own i e' he ho with ⟨j, e, h1, h2, h3⟩ | h2
    · rcases h.own j e h1 h2 with ⟨j', e', k1, k2, k3⟩ | h4
      · exact .inl ⟨j', e', k1, k2, k3.trans h3⟩
      · exact .inr (by rw [← h3]; exact h4)
    · exact .inr (Nat.le_trans h.size h2)
  os := k.os.trans h.os
  tape := k.tape.trans h.tape
  output := k.output.trans h.output
  size := Nat.le_trans h.size k.size
  block b hb hn := by
    rw [k.block b (Nat.lt_of_lt_of_le hb h.size), h.block b hb hn]
    intro i e he ho
    rcases h.own i e he ho with ⟨j, f, h1, h2, h3⟩ | h2
    · rw [← h3]
      exact hn j f h1 h2
    · omega
theorem Ext.drawn {s s' : Sto} {ρ ρ' : Rho} {w w' : World} (h : Ext s ρ w s' ρ' w') (n : Nat) : Ext s ρ w s' ρ' { w' with drawn := n } :=
  ⟨h.len, h.same, h.own, h.os, h.tape, h.output, h.size, h.block⟩
theorem RepE.congr2 {ρ ρ' : Rho} {w w' : World} {i n : Nat} {e : Ent} (hρ : ∀ j, j < n → ρ' j = ρ j) (hi : ρ' i = ρ i) (hb : e.bd n) (hblk : w'.heap[(ρ i).1]? = w.heap[(ρ i).1]?) (hsz : w.heap.size ≤ w'.heap.size) (h : RepE ρ w i e) : RepE ρ' w' i e := by
  cases e with
  | own cs t =>
    simp only [RepE] at h ⊢
    rw [hi, hblk, absL_congr hρ cs hb]
    exact h
  | ro cs =>
    simp only [RepE] at h ⊢
    rw [hi]
    refine ⟨by rw [hblk]; exact h.1, fun j v hv => ?_⟩
    have hvb : v.bd n := (bdL_iff.1 hb) v (List.mem_of_getElem? hv)
    rw [V.abs_congr hρ v hvb, ← h.2 j v hv]
    simp only [World.cell?, hblk]
  | map es c =>
    simp only [RepE] at h ⊢
    rw [hi, hblk, h]
    congr 3
    refine List.map_congr_left fun e he => ?_
    have := hb e he
    simp only [absE, V.abs_congr hρ _ this.1, V.abs_congr hρ _ this.2]
  | lst cs t k z =>
    obtain ⟨rest, h1, h2, h3⟩ := h
    refine ⟨rest, ?_, by rw [hi]; exact h2, by rw [hρ k hb.2]; exact h3⟩
    rw [hi, hblk, absL_congr hρ cs hb.1]
    exact h1
  | lp e m ps asg body pend =>
    obtain ⟨r, h1, h2, h3, h4, h5, h6, h7, h8⟩ := h
    exact ⟨r, by rw [hi, hblk]; exact h1, h2, h3, h4, h5, h6, h7, fun t v hv => by rw [V.abs_congr hρ v (hb t v hv)]; exact h8 t v hv⟩
  | arr m cols q t =>
    obtain ⟨cs, h1, h2, h3, h4⟩ := h
    refine ⟨cs, h1, h2, h3, ?_⟩
    cases m with
    | ro =>
      refine ⟨by rw [hi, hblk]; exact h4.1, fun j v hj => ?_⟩
      have := h4.2 j v hj
      rw [hi]
      simp only [World.cell?, hblk] at this ⊢
      exact this
    | own => exact ⟨by rw [hi, hblk]; exact h4.1, by rw [hi]; exact h4.2⟩
    | grow k =>
      obtain ⟨rest, g1, g2, g3⟩ := h4
      exact ⟨rest, by rw [hi, hblk]; exact g1, by rw [hi]; exact g2, by rw [hρ k hb]; exact g3⟩
  | no => trivial
theorem RepE.congr {ρ ρ' : Rho} {w w' : World} {i n : Nat} {e : Ent} (hρ : ∀ j, j < n → ρ' j = ρ j) (hi : i < n) (hb : e.bd n) (hblk : w'.heap[(ρ i).1]? = w.heap[(ρ i).1]?) (hsz : w.heap.size ≤ w'.heap.size) (h : RepE ρ w i e) : RepE ρ' w' i e := RepE.congr2 hρ (hρ i hi) hb hblk hsz h
/-- The new block is put behind the store. -/
def Rho.push (ρ : Rho) (n : Nat) (b : Nat) : Rho := fun i => if i = n then (b, 0) else ρ i
theorem Rho.push_lt {ρ : Rho} {n b i : Nat} (h : i < n) : (ρ.push n b) i = ρ i := by simp [Rho.push]; omega
theorem Rho.push_at {ρ : Rho} {n b : Nat} : (ρ.push n b) n = (b, 0) := by simp [Rho.push]
theorem RepE.lt {ρ : Rho} {w : World} {i : Nat} {e : Ent} (h : RepE ρ w i e) (hl : e.live = true) : (ρ i).1 < w.heap.size := by
  cases e with
  | own cs t => exact (Array.getElem?_eq_some_iff.1 h.1).1
  | ro cs => obtain ⟨⟨a, t, x, h1⟩, _⟩ := h; exact (Array.getElem?_eq_some_iff.1 h1).1
  | map es c => exact (Array.getElem?_eq_some_iff.1 h).1
  | lp e m ps asg body pend => obtain ⟨r, h1, _⟩ := h; exact (Array.getElem?_eq_some_iff.1 h1).1
  | lst cs t k z => obtain ⟨rest, h1, _⟩ := h; exact (Array.getElem?_eq_some_iff.1 h1).1
  | arr m cols q t =>
    obtain ⟨cs, _, _, _, h4⟩ := h
    cases m with
    | ro => obtain ⟨⟨a, t, x, h1⟩, _⟩ := h4; exact (Array.getElem?_eq_some_iff.1 h1).1
    | own => exact (Array.getElem?_eq_some_iff.1 h4.1).1
    | grow k => obtain ⟨rest, h1, _⟩ := h4; exact (Array.getElem?_eq_some_iff.1 h1).1
  | no => simp [Ent.live] at hl
theorem Ent.own_live {e : Ent} (h : e.isOwn = true) : e.live = true := by cases e <;> simp_all [Ent.isOwn, Ent.live]
theorem Ent.bd_mono' {n m : Nat} (h : n ≤ m) : ∀ (e : Ent), e.bd n → e.bd m
  | .own cs t, hf => bdL_mono h _ hf
  | .ro cs, hf => bdL_mono h _ hf
  | .map es c, hf => fun x hx => ⟨V.bd_mono h _ (hf x hx).1, V.bd_mono h _ (hf x hx).2⟩
  | .lst cs t k z, hf => ⟨bdL_mono h _ hf.1, Nat.lt_of_lt_of_le hf.2 h⟩
  | .lp e m ps asg body pend, hf => fun t v hv => V.bd_mono h v (hf t v hv)
  | .arr m cols q t, hf => by
    cases m with
    | grow k => exact Nat.lt_of_lt_of_le hf h
    | _ => trivial
  | .no, _ => trivial
/-- A new block. -/
theorem Rep.alloc {ρ : Rho} {s : Sto} {w : World} (h : Rep ρ s w) (hs : sbd s) {e : Ent} {o : Obj} (hown : e.isOwn = true) (he : e.bd s.length)
    (ho : RepE (ρ.push s.length w.heap.size) (w.alloc o) s.length e) :
    Rep (ρ.push s.length w.heap.size) (s ++ [e]) (w.alloc o) ∧ Ext s ρ w (s ++ [e]) (ρ.push s.length w.heap.size) (w.alloc o) ∧ sbd (s ++ [e]) := by
  have hρ : ∀ j, j < s.length → (ρ.push s.length w.heap.size) j = ρ j := fun j hj => Rho.push_lt hj
  have hblk : ∀ b, b < w.heap.size → (w.alloc o).heap[b]? = w.heap[b]? := fun b hb => Go.RowKit.Below.heap_alloc _ _ _ hb
  have hsz : w.heap.size ≤ (w.alloc o).heap.size := by simp
  refine ⟨⟨?_, ?_⟩, ?_, ?_⟩
  · intro i f hf
    by_cases hi : i < s.length
    · rw [List.getElem?_append_left hi] at hf
      have hr := h.ent i f hf
      cases hlv : f.live with
      | true => exact RepE.congr hρ hi (hs i f hf) (hblk _ (hr.lt hlv)) hsz hr
      | false => cases f <;> simp_all [Ent.live, RepE]
    · rw [List.getElem?_append_right (by omega)] at hf
      have : i - s.length = 0 := by
        rcases Nat.eq_zero_or_pos (i - s.length) with h0 | h0
        · exact h0
        · rw [List.getElem?_eq_none (by simp; omega)] at hf; cases hf
      rw [this] at hf
      obtain rfl : e = f := by simpa using hf
      obtain rfl : i = s.length := by omega
      exact ho
  · intro i j f g hf hg hfo hgl hij
    have key : ∀ (k : Nat) (x : Ent), (s ++ [e])[k]? = some x → x.live = true → (k < s.length ∧ s[k]? = some x ∧ ((ρ.push s.length w.heap.size) k).1 < w.heap.size ∧ ((ρ.push s.length w.heap.size) k).1 = (ρ k).1) ∨ (k = s.length ∧ ((ρ.push s.length w.heap.size) k).1 = w.heap.size) := by
      intro k x hx hxl
      by_cases hk : k < s.length
      · rw [List.getElem?_append_left hk] at hx
        rw [hρ k hk]
        exact .inl ⟨hk, hx, (h.ent k x hx).lt hxl, rfl⟩
      · have hk2 : k = s.length := by
          have := (List.getElem?_eq_some_iff.1 hx).1
          simp at this
          omega
        subst hk2
        exact .inr ⟨rfl, by rw [Rho.push_at]⟩
    rcases key i f hf (Ent.own_live hfo) with ⟨a1, a2, a3, a4⟩ | ⟨a1, a2⟩ <;> rcases key j g hg hgl with ⟨b1, b2, b3, b4⟩ | ⟨b1, b2⟩
    · rw [a4, b4]; exact h.sep i j f g a2 b2 hfo hgl hij
    · omega
    · omega
    · omega
  · refine ⟨by simp, hρ, ?_, rfl, rfl, rfl, hsz, fun b hb _ => hblk b hb⟩
    intro i f hf hfo
    by_cases hi : i < s.length
    · rw [List.getElem?_append_left hi] at hf
      exact .inl ⟨i, f, hf, hfo, by rw [hρ i hi]⟩
    · have hk2 : i = s.length := by
        have := (List.getElem?_eq_some_iff.1 hf).1
        simp at this
        omega
      subst hk2
      exact .inr (by rw [Rho.push_at]; exact Nat.le_refl _)
  · have bdmono : ∀ (f : Ent), f.bd s.length → f.bd (s ++ [e]).length := by
      intro f hf
      have hle : s.length ≤ (s ++ [e]).length := by simp
      exact Ent.bd_mono' hle f hf
    intro i f hf
    by_cases hi : i < s.length
    · rw [List.getElem?_append_left hi] at hf
      exact bdmono f (hs i f hf)
    · have hk2 : i = s.length := by
        have := (List.getElem?_eq_some_iff.1 hf).1
        simp at this
        omega
      subst hk2
      simp at hf
      subst hf
      exact bdmono _ he
/-- A block of its own is changed. -/
theorem Rep.change {ρ : Rho} {s : Sto} {w w' : World} (h : Rep ρ s w) (hs : sbd s) {i : Nat} {e e' : Ent} (hi : s[i]? = some e) (hown : e.isOwn = true) (hown' : e'.isOwn = true) (he : e'.bd s.length)
    (ho : RepE ρ w' i e') (hsz : w'.heap.size = w.heap.size) (hos : w'.os = w.os) (htape : w'.tape = w.tape) (hout : w'.output = w.output) (hblk : ∀ b, b ≠ (ρ i).1 → w'.heap[b]? = w.heap[b]?) :
    Rep ρ (s.set i e') w' ∧ Ext s ρ w (s.set i e') ρ w' ∧ sbd (s.set i e') := by
  have hil : i < s.length := (List.getElem?_eq_some_iff.1 hi).1
  have old : ∀ (j : Nat) (f : Ent), (s.set i e')[j]? = some f → j ≠ i → s[j]? = some f := by
    intro j f hf hj
    rwa [List.getElem?_set_ne (by omega)] at hf
  have new : ∀ (f : Ent), (s.set i e')[i]? = some f → f = e' := by
    intro f hf
    rw [List.getElem?_set_self (by simpa using hil)] at hf
    exact (Option.some.inj hf).symm
  refine ⟨⟨?_, ?_⟩, ?_, ?_⟩
  · intro j f hf
    by_cases hj : j = i
    · subst hj; rw [new f hf]; exact ho
    · have hf' := old j f hf hj
      have hr := h.ent j f hf'
      cases hlv : f.live with
      | true =>
        have hne : (ρ j).1 ≠ (ρ i).1 := fun hh => h.sep i j e f hi hf' hown hlv (fun x => hj x.symm) hh.symm
        exact RepE.congr (n := s.length) (fun _ _ => rfl) ((List.getElem?_eq_some_iff.1 hf').1) (hs j f hf') (hblk _ hne) (by omega) hr
      | false => cases f <;> simp_all [Ent.live, RepE]
  · intro j k f g hf hg hfo hgl hjk
    have hj : ∃ f0, s[j]? = some f0 ∧ f0.isOwn = true := by
      by_cases hj : j = i
      · exact ⟨e, by rw [hj]; exact hi, hown⟩
      · exact ⟨f, old j f hf hj, hfo⟩
    have hk : ∃ g0, s[k]? = some g0 ∧ g0.live = true := by
      by_cases hk : k = i
      · exact ⟨e, by rw [hk]; exact hi, Ent.own_live hown⟩
      · exact ⟨g, old k g hg hk, hgl⟩
    obtain ⟨f0, a1, a2⟩ := hj
    obtain ⟨g0, b1, b2⟩ := hk
    exact h.sep j k f0 g0 a1 b1 a2 b2 hjk
  · refine ⟨by simp, fun _ _ => rfl, ?_, hos, htape, hout, by omega, ?_⟩
    · intro j f hf hfo
      by_cases hj : j = i
      · exact .inl ⟨i, e, hi, hown, by rw [hj]⟩
      · exact .inl ⟨j, f, old j f hf hj, hfo, rfl⟩
    · intro b hb hn
      exact hblk b (fun hh => hn i e hi hown hh.symm)
  · intro j f hf
    have hlen : (s.set i e').length = s.length := by simp
    rw [hlen]
    by_cases hj : j = i
    · subst hj; rw [new f hf]; exact he
    · exact hs j f (old j f hf hj)
end Go.Proofs.YtalgegmcllcnmaaRL
end
section
/- RL, second text: the operations, computed on values of the logic; each is what the machine does. -/
namespace Go.Proofs.YtalgegmcllcnmaaRL
open Go
set_option linter.unusedVariables false
set_option linter.unusedSimpArgs false
variable {Δ : List Deferred}
/-- The state of a call: how many temporaries; those that are known, newest first; the store. -/
structure St where
  n : Nat
  t : List (Nat × V)
  s : Sto
/-- A list, its spine made plain. -/
def flA {R : Type} {α : Type} : List α → (List α → R) → R
  | [], K => K []
  | a :: l, K => flA l fun l => K (a :: l)
theorem flA_eq {R : Type} {α : Type} : ∀ (l : List α) (K : List α → R), flA l K = K l
  | [], K => rfl
  | a :: l, K => by rw [flA, flA_eq l]
def ofVal : Value → V
  | .agg cs => .agg (cs.toList.map .raw)
  | .tuple vs => .tup (vs.toList.map .raw)
  | .iface t v => .ifc t (.raw v)
  | .func f a b => .fn f (a.toList.map .raw) (b.toList.map .raw)
  | v => .raw v
theorem absL_raw (ρ : Rho) (l : List Value) : absL ρ (l.map .raw) = l := by
  induction l with
  | nil => rfl
  | cons v l ih => simp [absL, V.abs, ih]
theorem absL_append (ρ : Rho) (a b : List V) : absL ρ (a ++ b) = absL ρ a ++ absL ρ b := by simp [absL_map]
theorem absL_length (ρ : Rho) (a : List V) : (absL ρ a).length = a.length := by simp [absL_map]
theorem absL_get (ρ : Rho) (a : List V) (i : Nat) : (absL ρ a)[i]? = (a[i]?).map (V.abs ρ) := by simp [absL_map]
theorem bdL_raw (n : Nat) (l : List Value) : bdL n (l.map .raw) := by
  induction l with
  | nil => simp [bdL]
  | cons v l ih => simp [bdL, V.bd, ih]
theorem bdL_append {n : Nat} {a b : List V} : bdL n (a ++ b) ↔ bdL n a ∧ bdL n b := by
  simp only [bdL_iff, List.mem_append]
  exact ⟨fun h => ⟨fun v hv => h v (.inl hv), fun v hv => h v (.inr hv)⟩, fun h v hv => hv.elim (h.1 v) (h.2 v)⟩
theorem bdL_get {n : Nat} {a : List V} {i : Nat} {v : V} (h : bdL n a) (hv : a[i]? = some v) : v.bd n := (bdL_iff.1 h) v (List.mem_of_getElem? hv)
theorem abs_ofVal (ρ : Rho) (v : Value) : (ofVal v).abs ρ = v := by
  cases v <;> simp [ofVal, V.abs, absL_raw]
theorem bd_ofVal (n : Nat) (v : Value) : (ofVal v).bd n := by
  cases v <;> simp [ofVal, V.bd, bdL_raw]
/-- A raw value, opened. -/
def V.nf : V → V
  | .raw v => ofVal v
  | v => v
theorem abs_nf (ρ : Rho) (v : V) : v.nf.abs ρ = v.abs ρ := by
  cases v <;> simp [V.nf, abs_ofVal, V.abs]
theorem bd_nf {n : Nat} {v : V} (h : v.bd n) : v.nf.bd n := by
  cases v <;> first | exact bd_ofVal _ _ | exact h
def getT (t : List (Nat × V)) : Operand → Option V
  | .tmp k => find t k
  | .const v => some (ofVal v)
  | .global _ => none
  | .func f => some (.fn (.func f) [] [])
def St.get (st : St) (x : Operand) : Option V := getT st.t x
/-- What a call has stands in its frame. -/
structure Sim (Δ : List Deferred) (ρ : Rho) (st : St) (a : Act) (w : World) : Prop where
  defers : a.defers = Δ
  size : a.tmps.size = st.n
  tmps : ∀ (t : Nat) v, find st.t t = some v → a.tmps[t]? = some (v.abs ρ)
  bd : ∀ (t : Nat) v, find st.t t = some v → v.bd st.s.length
  rep : Rep ρ st.s w
  sb : sbd st.s
theorem Sim.eval {ρ : Rho} {st : St} {a : Act} {w : World} (h : Sim Δ ρ st a w) {x : Operand} {v : V} (hx : st.get x = some v) : a.eval x = v.abs ρ ∧ v.bd st.s.length := by
  cases x with
  | tmp t =>
    simp only [St.get, getT] at hx
    exact ⟨by simp [Act.eval, Array.getD_eq_getD_getElem?, h.tmps t v hx], h.bd t v hx⟩
  | const c =>
    simp only [St.get, getT, Option.some.injEq] at hx
    subst hx
    exact ⟨by simp [Act.eval, abs_ofVal], bd_ofVal _ _⟩
  | global g => simp [St.get, getT] at hx
  | func f =>
    simp only [St.get, getT, Option.some.injEq] at hx
    subst hx
    exact ⟨by simp [Act.eval, V.abs, absL], by simp [V.bd, bdL]⟩
def putT (n : Nat) (t : List (Nat × V)) (dst : Option Tmp) (v : V) : List (Nat × V) :=
  match dst with
  | none => t
  | some d => match Nat.blt d n with
    | true => (d, v) :: t
    | false => t
def St.put (st : St) (dst : Option Tmp) (v : V) (s : Sto) : St := ⟨st.n, putT st.n st.t dst v, s⟩
theorem Sim.put {ρ ρ' : Rho} {st : St} {a : Act} {w w' : World} (h : Sim Δ ρ st a w) {dst : Option Tmp} {v : V} {s : Sto} (hr : Rep ρ' s w') (hs : sbd s) (he : Ext st.s ρ w s ρ' w') (hv : v.bd s.length) :
    Sim Δ ρ' (st.put dst v s) (a.put dst (v.abs ρ')) w' := by
  have old : ∀ (t : Nat) u, find st.t t = some u → a.tmps[t]? = some (u.abs ρ') := fun t u hu => by
    rw [V.abs_congr he.same u (h.bd t u hu)]; exact h.tmps t u hu
  have oldb : ∀ (t : Nat) u, find st.t t = some u → u.bd s.length := fun t u hu => V.bd_mono he.len u (h.bd t u hu)
  cases dst with
  | none => exact ⟨h.defers, h.size, old, oldb, hr, hs⟩
  | some d =>
    simp only [St.put, putT, Act.put]
    cases hd : Nat.blt d st.n with
    | false =>
      have hge : st.n ≤ d := by
        rcases Nat.lt_or_ge d st.n with hh | hh
        · rw [← Nat.blt_eq, hd] at hh; cases hh
        · exact hh
      have : a.tmps.setIfInBounds d (v.abs ρ') = a.tmps := by
        apply Array.ext'
        have := h.size
        simp [Array.toList_setIfInBounds, List.set_eq_of_length_le, this, hge]
      exact ⟨h.defers, by simpa using h.size, fun t u hu => by rw [this]; exact old t u hu, oldb, hr, hs⟩
    | true =>
      have hlt : d < st.n := by rw [← Nat.blt_eq]; exact hd
      refine ⟨h.defers, by simpa using h.size, fun t u hu => ?_, fun t u hu => ?_, hr, hs⟩
      · simp only [find] at hu
        cases hdt : Nat.beq d t with
        | true =>
          rw [hdt] at hu
          obtain rfl : v = u := by simpa using hu
          obtain rfl : d = t := Nat.eq_of_beq_eq_true hdt
          simp [h.size, hlt]
        | false =>
          rw [hdt] at hu
          have hne : d ≠ t := fun e => by subst e; simp at hdt
          rw [Array.getElem?_setIfInBounds_ne hne]
          exact old t u hu
      · simp only [find] at hu
        cases hdt : Nat.beq d t with
        | true =>
          rw [hdt] at hu
          obtain rfl : v = u := by simpa using hu
          exact hv
        | false =>
          rw [hdt] at hu
          exact oldb t u hu
/-- A way through a test. -/
def Br {R : Type} (b : Bool) (A B : R) : R :=
  match b with
  | true => A
  | false => B
theorem Br.mk {b : Bool} {A B : Prop} (h : b = true → A) (k : b = false → B) : Br b A B := by
  cases b
  · exact k rfl
  · exact h rfl
theorem Br.no {b : Bool} {A B : Prop} (hb : b = false) (h : B) : Br b A B := by subst hb; exact h
theorem Br.out {R : Type} {T : R → Prop} {b : Bool} {A B : R} (h : T (Br b A B)) : (b = true ∧ T A) ∨ (b = false ∧ T B) := by
  cases b
  · exact .inr ⟨rfl, h⟩
  · exact .inl ⟨rfl, h⟩
/-- Something that must be there. -/
def Wi {R : Type} (no : R) {α : Type} (x : Option α) (A : α → R) : R :=
  match x with
  | some a => A a
  | none => no
theorem Wi.mk {α : Type} {x : Option α} {a : α} {A : α → Prop} (hx : x = some a) (h : A a) : Wi False x A := by subst hx; exact h
theorem Wi.out {R : Type} {T : R → Prop} {no : R} (hno : ¬ T no) {α : Type} {x : Option α} {A : α → R} (h : T (Wi no x A)) : ∃ a, x = some a ∧ T (A a) := by
  cases x with
  | none => exact (hno h).elim
  | some a => exact ⟨a, rfl, h⟩
def aggD : TypeDesc → Bool
  | .struct _ | .array _ _ => true
  | _ => false
def V.cells : V → List V
  | .agg cs => cs
  | .raw (.agg cs) => cs.toList.map .raw
  | v => [v]
theorem abs_cells (ρ : Rho) (v : V) : (v.abs ρ).cells = (absL ρ v.cells).toArray := by
  cases v with
  | raw v => cases v <;> simp [V.abs, V.cells, Value.cells, absL, absL_raw]
  | agg cs => simp [V.abs, V.cells, Value.cells]
  | _ => simp [V.abs, V.cells, Value.cells, absL]
theorem bd_cells {n : Nat} {v : V} (h : v.bd n) : bdL n v.cells := by
  cases v with
  | raw v => cases v <;> simp [V.cells, bdL, V.bd, bdL_raw]
  | agg cs => exact h
  | _ => exact ⟨h, trivial⟩
def V.one : V → Bool
  | .agg _ | .tup _ => false
  | .raw (.agg _) | .raw (.tuple _) => false
  | _ => true
theorem abs_one (ρ : Rho) {v : V} (h : v.one = true) : (v.abs ρ).oneCell' = true := by
  cases v with
  | raw v => cases v <;> simp_all [V.abs, V.one, Value.oneCell']
  | agg cs => simp [V.one] at h
  | tup cs => simp [V.one] at h
  | _ => simp [V.abs, Value.oneCell']
section
variable (P : Program)
def vPart (t : TypeId) (cs : List V) (off : Nat) : Option V :=
  match P.underlying t with
  | some d => match aggD d with
    | true => match P.info? t with
      | some i => some (.agg ((cs.drop off).take i.size))
      | none => none
    | false => cs[off]?
  | none => none
def vLoad (t : TypeId) (s : Sto) (i o : Nat) : Option V :=
  match s[i]? with
  | some e => match e.cells with
    | some cs => match P.underlying t with
      | some d => match aggD d with
        | true => match P.info? t with
          | some inf => match Nat.ble (o + inf.size) cs.length with
            | true => some (.agg ((cs.drop o).take inf.size))
            | false => none
          | none => none
        | false => cs[o]?
      | none => none
    | none => none
  | none => none
def setR (cs : List V) (o : Nat) : List V → List V
  | [] => cs
  | v :: vs => setR (cs.set o v) (o + 1) vs
def vStore (t : TypeId) (s : Sto) (i o : Nat) (v : V) : Option Sto :=
  match s[i]? with
  | some (.own cs e) => match P.info? t with
    | some inf => match Nat.beq v.cells.length inf.size && Nat.ble (o + inf.size) cs.length && v.cells.all V.one with
      | true => flA (setR cs o v.cells) fun cs => flA (s.set i (.own cs e)) fun s => some s
      | false => none
    | none => none
  | some (.lst cs e k z) => match P.info? t with
    | some inf => match Nat.beq v.cells.length inf.size && Nat.ble (o + inf.size) cs.length && v.cells.all V.one with
      | true => flA (setR cs o v.cells) fun cs => flA (s.set i (.lst cs e k z)) fun s => some s
      | false => none
    | none => none
  | _ => none
end
section
variable {P : Program} {ρ : Rho} {w : World}
theorem run_underlying {t : TypeId} {d : TypeDesc} (h : P.underlying t = some d) : (underlying t).run P w = .ok d w := by simp [underlying, h]
theorem run_typeInfo {t : TypeId} {i : TypeInfo} (h : P.info? t = some i) : (typeInfo t).run P w = .ok i w := by simp [typeInfo, h]
theorem run_sizeOf {t : TypeId} {i : TypeInfo} (h : P.info? t = some i) : (sizeOf t).run P w = .ok i.size w := by simp [sizeOf, run_typeInfo h]
theorem run_isAgg {t : TypeId} {d : TypeDesc} (h : P.underlying t = some d) : (isAgg t).run P w = .ok (aggD d) w := by
  simp only [isAgg, Sem.run_bind, run_underlying h, Result.andThen_ok]
  cases d <;> rfl
theorem run_part {t : TypeId} {cs : List V} {off : Nat} {v : V} (h : vPart P t cs off = some v) : (part t (absL ρ cs).toArray off).run P w = .ok (v.abs ρ) w := by
  unfold vPart at h
  cases hd : P.underlying t with
  | none => simp [hd] at h
  | some d =>
    simp only [hd] at h
    cases ha : aggD d with
    | true =>
      simp only [ha] at h
      cases hi : P.info? t with
      | none => simp [hi] at h
      | some i =>
        simp only [hi, Option.some.injEq] at h
        subst h
        simp only [part, Sem.run_bind, run_isAgg hd, Result.andThen_ok, ha, if_true, run_sizeOf hi, Sem.run_pure, V.abs]
        congr 2
        apply Array.ext'
        simp [absL_map, Array.toList_extract, List.map_drop, List.map_take, List.extract_eq_take_drop]
    | false =>
      simp only [ha] at h
      simp [part, run_isAgg hd, ha, absL_get, h]
theorem bd_part {n : Nat} {t : TypeId} {cs : List V} {off : Nat} {v : V} (h : vPart P t cs off = some v) (hb : bdL n cs) : v.bd n := by
  unfold vPart at h
  split at h
  · split at h
    · split at h
      · simp only [Option.some.injEq] at h
        subst h
        exact bdL_iff.2 fun v hv => bdL_iff.1 hb v (List.mem_of_mem_drop (List.mem_of_mem_take hv))
      · cases h
    · exact bdL_get hb h
  · cases h
theorem rep_cell {s : Sto} (hr : Rep ρ s w) {i : Nat} {e : Ent} {cs : List V} (hi : s[i]? = some e) (hc : e.cells = some cs) {j : Nat} {v : V} (hj : cs[j]? = some v) :
    w.cell? ⟨(ρ i).1, (ρ i).2 + j, none⟩ = some (v.abs ρ) := by
  have := hr.ent i e hi
  cases e with
  | own cs' t =>
    simp only [Ent.cells, Option.some.injEq] at hc
    subst hc
    obtain ⟨h1, h2⟩ := this
    simp [World.cell?, h1, h2, absL_get, hj]
  | ro cs' =>
    simp only [Ent.cells, Option.some.injEq] at hc
    subst hc
    exact this.2 j v hj
  | lst cs' t k z =>
    simp only [Ent.cells, Option.some.injEq] at hc
    subst hc
    obtain ⟨rest, h1, h2, _⟩ := this
    have hlt : j < (absL ρ cs').length := by rw [absL_length]; exact (List.getElem?_eq_some_iff.1 hj).1
    simp [World.cell?, h1, h2, List.getElem?_append_left hlt, absL_get, hj]
  | map => simp [Ent.cells] at hc
  | lp => simp [Ent.cells] at hc
  | arr => simp [Ent.cells] at hc
  | no => simp [Ent.cells] at hc
theorem run_load' {s : Sto} (hr : Rep ρ s w) {t : TypeId} {i o : Nat} {v : V} (h : vLoad P t s i o = some v) : (loadVar t ⟨(ρ i).1, (ρ i).2 + o, none⟩).run P w = .ok (v.abs ρ) w := by
  unfold vLoad at h
  split at h
  · rename_i e hi
    split at h
    · rename_i cs hc
      split at h
      · rename_i d hd
        split at h
        · rename_i ha
          split at h
          · rename_i inf hinf
            split at h
            · rename_i hle
              simp only [Option.some.injEq] at h
              subst h
              have hle' : o + inf.size ≤ cs.length := Nat.le_of_ble_eq_true hle
              simp only [loadVar, Sem.run_bind, run_isAgg hd, Result.andThen_ok, ha, if_true, run_sizeOf hinf]
              have := run_loadCells_list (P := P) w ⟨(ρ i).1, (ρ i).2 + o, none⟩ (absL ρ ((cs.drop o).take inf.size)) (fun j v hv => by
                rw [absL_get] at hv
                obtain ⟨u, hu, rfl⟩ := Option.map_eq_some_iff.1 hv
                rw [List.getElem?_take] at hu
                split at hu
                · rw [List.getElem?_drop] at hu
                  have := rep_cell hr hi hc hu
                  unfold Addr.add
                  split
                  · rename_i h0; subst h0; simpa using this
                  · simpa [Nat.add_assoc] using this
                · cases hu)
              have hl : (absL ρ ((cs.drop o).take inf.size)).length = inf.size := by
                rw [absL_length, List.length_take, List.length_drop]; omega
              rw [hl] at this
              simp [this, V.abs]
            · cases h
          · cases h
        · rename_i ha
          have := rep_cell hr hi hc h
          simp [loadVar, run_isAgg hd, ha, this]
      · cases h
    · cases h
  · cases h
theorem bd_load {s : Sto} (hs : sbd s) {t : TypeId} {i o : Nat} {v : V} (h : vLoad P t s i o = some v) : v.bd s.length := by
  unfold vLoad at h
  split at h
  · rename_i e hi
    split at h
    · rename_i cs hc
      have hb : bdL s.length cs := by
        have := hs i e hi
        cases e with
        | own cs' t => simp only [Ent.cells, Option.some.injEq] at hc; subst hc; exact this
        | ro cs' => simp only [Ent.cells, Option.some.injEq] at hc; subst hc; exact this
        | lst cs' t k z => simp only [Ent.cells, Option.some.injEq] at hc; subst hc; exact this.1
        | map => simp [Ent.cells] at hc
        | lp => simp [Ent.cells] at hc
        | arr => simp [Ent.cells] at hc
        | no => simp [Ent.cells] at hc
      split at h
      · split at h
        · split at h
          · split at h
            · simp only [Option.some.injEq] at h
              subst h
              exact bdL_iff.2 fun v hv => bdL_iff.1 hb v (List.mem_of_mem_drop (List.mem_of_mem_take hv))
            · cases h
          · cases h
        · exact bdL_get hb h
      · cases h
    · cases h
  · cases h
theorem setR_length (o : Nat) : ∀ (vs cs : List V), (setR cs o vs).length = cs.length := by
  intro vs
  induction vs generalizing o with
  | nil => intro cs; rfl
  | cons v vs ih => intro cs; simp [setR, ih]
theorem bdL_setR {n o : Nat} : ∀ {vs cs : List V}, bdL n vs → bdL n cs → bdL n (setR cs o vs) := by
  intro vs
  induction vs generalizing o with
  | nil => intro cs _ h; exact h
  | cons v vs ih =>
    intro cs hv hc
    simp only [setR]
    refine ih hv.2 (bdL_iff.2 fun u hu => ?_)
    rcases List.mem_or_eq_of_mem_set hu with h | rfl
    · exact bdL_iff.1 hc u h
    · exact hv.1
/-- The cells of a block of its own, one behind the other. -/
theorem run_storeCells {i : Nat} {e : TypeId} (h2 : (ρ i).2 = 0) (o : Nat) : ∀ (vs : List V) (k : Nat) (cs : List V) (w : World), vs.all V.one = true → o + k + vs.length ≤ cs.length → w.heap[(ρ i).1]? = some (.cells (absL ρ cs).toArray e (0, 0)) →
    ∃ w', (storeCells ⟨(ρ i).1, (ρ i).2 + o, none⟩ (absL ρ vs) k).run P w = .ok () w' ∧ w'.heap[(ρ i).1]? = some (.cells (absL ρ (setR cs (o + k) vs)).toArray e (0, 0)) ∧ w'.heap.size = w.heap.size ∧ w'.os = w.os ∧ w'.tape = w.tape ∧ w'.output = w.output ∧ ∀ b, b ≠ (ρ i).1 → w'.heap[b]? = w.heap[b]? := by
  intro vs
  induction vs with
  | nil => intro k cs w _ _ h; exact ⟨w, by simp [storeCells, absL], by simpa [setR] using h, rfl, rfl, rfl, rfl, fun _ _ => rfl⟩
  | cons v vs ih =>
    intro k cs w hone hlen h
    simp only [List.all_cons, Bool.and_eq_true] at hone
    simp only [List.length_cons] at hlen
    have haddr : (⟨(ρ i).1, (ρ i).2 + o, none⟩ : Addr).add k = ⟨(ρ i).1, o + k, none⟩ := by
      unfold Addr.add
      split
      · rename_i h0; subst h0; simp [h2]
      · simp [h2]
    have hcell : ∃ u, w.cell? ⟨(ρ i).1, o + k, none⟩ = some u := by
      have hk : o + k < cs.length := by omega
      refine ⟨(cs[o + k]).abs ρ, ?_⟩
      simp [World.cell?, h, absL_get, List.getElem?_eq_getElem hk]
    obtain ⟨u, hu⟩ := hcell
    have hfr : w.frozen? ⟨(ρ i).1, o + k, none⟩ = false := by simp [World.frozen?, h]
    have hst : (store ⟨(ρ i).1, o + k, none⟩ (v.abs ρ) .plain).run P w = .ok () (w.setCell ⟨(ρ i).1, o + k, none⟩ (v.abs ρ)) := by
      rw [run_store P w _ _ _ (abs_one ρ hone.1)]
      simp [hu, hfr]
    have hheap : (w.setCell ⟨(ρ i).1, o + k, none⟩ (v.abs ρ)).heap[(ρ i).1]? = some (.cells (absL ρ (cs.set (o + k) v)).toArray e (0, 0)) := by
      simp [World.setCell, Array.getElem?_modify, h, absL_map, List.map_set]
    obtain ⟨w', h1, h3, h4, h5, h6, h7, h8⟩ := ih (k + 1) (cs.set (o + k) v) _ hone.2 (by simp; omega) hheap
    refine ⟨w', ?_, ?_, by simpa using h4, h5, h6, h7, fun b hb => ?_⟩
    · simp only [absL, storeCells, haddr, Sem.run_bind, hst, Result.andThen_ok]
      exact h1
    · simpa [setR, Nat.add_assoc] using h3
    · rw [h8 b hb]
      exact Go.RowKit.Below.heap_setCell _ _ _ _ hb
theorem setR_append (b : List V) : ∀ (vs cs : List V) (o : Nat), o + vs.length ≤ cs.length → setR (cs ++ b) o vs = setR cs o vs ++ b := by
  intro vs
  induction vs with
  | nil => intro cs o _; rfl
  | cons v vs ih =>
    intro cs o h
    simp only [List.length_cons] at h
    simp only [setR]
    rw [List.set_append_left _ _ (by omega), ih _ _ (by simp; omega)]
theorem run_store' {s : Sto} (hr : Rep ρ s w) (hs : sbd s) {t : TypeId} {i o : Nat} {v : V} {s' : Sto} (hv : v.bd s.length) (h : vStore P t s i o v = some s') :
    ∃ w', (storeVar t ⟨(ρ i).1, (ρ i).2 + o, none⟩ (v.abs ρ)).run P w = .ok () w' ∧ Rep ρ s' w' ∧ Ext s ρ w s' ρ w' ∧ sbd s' := by
  unfold vStore at h
  split at h
  · rename_i cs e hi
    split at h
    · rename_i inf hinf
      split at h
      · rename_i hc
        simp only [flA_eq, Option.some.injEq] at h
        subst h
        simp only [Bool.and_eq_true] at hc
        obtain ⟨⟨hc1, hc2⟩, hc3⟩ := hc
        have hc1' : v.cells.length = inf.size := Nat.eq_of_beq_eq_true hc1
        have hc2' : o + inf.size ≤ cs.length := Nat.le_of_ble_eq_true hc2
        obtain ⟨g1, g2⟩ := hr.ent i _ hi
        obtain ⟨w', h1, h3, h4, h5, h6, h7, h8⟩ := run_storeCells (P := P) (ρ := ρ) (i := i) (e := e) g2 o v.cells 0 cs w hc3 (by omega) g1
        have hbd : bdL s.length cs := hs i _ hi
        obtain ⟨r1, r2, r3⟩ := Rep.change (e' := .own (setR cs o v.cells) e) hr hs hi rfl rfl (bdL_setR (bd_cells hv) hbd) ⟨by simpa using h3, g2⟩ h4 h5 h6 h7 h8
        refine ⟨w', ?_, r1, r2, r3⟩
        simp [storeVar, run_sizeOf hinf, abs_cells, absL_length, hc1']
        exact h1
      · cases h
    · cases h
  · rename_i cs e k z hi
    split at h
    · rename_i inf hinf
      split at h
      · rename_i hc
        simp only [flA_eq, Option.some.injEq] at h
        subst h
        simp only [Bool.and_eq_true] at hc
        obtain ⟨⟨hc1, hc2⟩, hc3⟩ := hc
        have hc1' : v.cells.length = inf.size := Nat.eq_of_beq_eq_true hc1
        have hc2' : o + inf.size ≤ cs.length := Nat.le_of_ble_eq_true hc2
        obtain ⟨rest, g1, g2, g3⟩ := hr.ent i _ hi
        have g1' : w.heap[(ρ i).1]? = some (.cells (absL ρ (cs ++ rest.map .raw)).toArray e (0, 0)) := by rw [absL_append, absL_raw]; exact g1
        obtain ⟨w', h1, h3, h4, h5, h6, h7, h8⟩ := run_storeCells (P := P) (ρ := ρ) (i := i) (e := e) g2 o v.cells 0 (cs ++ rest.map .raw) w hc3 (by simp; omega) g1'
        have hbd := hs i _ hi
        rw [setR_append _ _ _ _ (by omega), absL_append, absL_raw] at h3
        obtain ⟨r1, r2, r3⟩ := Rep.change (e' := .lst (setR cs o v.cells) e k z) hr hs hi rfl rfl ⟨bdL_setR (bd_cells hv) hbd.1, hbd.2⟩ ⟨rest, by simpa using h3, g2, by rw [setR_length]; exact g3⟩ h4 h5 h6 h7 h8
        refine ⟨w', ?_, r1, r2, r3⟩
        simp [storeVar, run_sizeOf hinf, abs_cells, absL_length, hc1']
        exact h1
      · cases h
    · cases h
  · cases h
end
end Go.Proofs.YtalgegmcllcnmaaRL
end
section
/- RL, third text: the operations of a region but calls. -/
namespace Go.Proofs.YtalgegmcllcnmaaRL
open Go
set_option linter.unusedVariables false
set_option linter.unusedSimpArgs false
variable {Δ : List Deferred}
abbrev Kt (R : Type) := V → Sto → R
/-- An operation comes to a value and a store of which K holds; one that is still (q) leaves the world alone. -/
def Step (q : Bool) (P : Program) (st : St) (ρ : Rho) (w : World) (s : Sem Next) (K : Kt Prop) : Prop :=
  ∃ n v s' ρ' w', s.run P w = .ok n w' ∧ (n = .value (v.abs ρ') ∨ (n = .skip ∧ v = .raw undef)) ∧ K v s' ∧ Rep ρ' s' w' ∧ Ext st.s ρ w s' ρ' w' ∧ sbd s' ∧ v.bd s'.length ∧ (q = true → w' = w ∧ ρ' = ρ ∧ s' = st.s ∧ n = .value (v.abs ρ'))
theorem Step.val {q : Bool} {P : Program} {st : St} {ρ : Rho} {a : Act} {w : World} {s : Sem Value} {K : Kt Prop} {v : V} (h : Sim Δ ρ st a w) (hr : s.run P w = .ok (v.abs ρ) w) (hb : v.bd st.s.length) (hk : K v st.s) :
    Step q P st ρ w (do pure (Next.value (← s))) K :=
  ⟨.value (v.abs ρ), v, st.s, ρ, w, by simp [hr], .inl rfl, hk, h.rep, Ext.refl _ _ _, h.sb, hb, fun _ => ⟨rfl, rfl, rfl, rfl⟩⟩
theorem Step.alloc {P : Program} {st : St} {ρ : Rho} {a : Act} {w : World} {s : Sem Value} {K : Kt Prop} {v : V} {cs : List V} {elem : TypeId} (h : Sim Δ ρ st a w) (hb : bdL st.s.length cs)
    (hv : v.bd (st.s.length + 1)) (hr : s.run P w = .ok (v.abs (ρ.push st.s.length w.heap.size)) (w.alloc (.cells (absL ρ cs).toArray elem))) (hk : K v (st.s ++ [.own cs elem])) :
    Step false P st ρ w (do pure (Next.value (← s))) K := by
  have hρ : ∀ j, j < st.s.length → (ρ.push st.s.length w.heap.size) j = ρ j := fun j hj => Rho.push_lt hj
  obtain ⟨r1, r2, r3⟩ := Rep.alloc (e := .own cs elem) (o := .cells (absL ρ cs).toArray elem) h.rep h.sb rfl hb (by
    refine ⟨?_, by rw [Rho.push_at]⟩
    rw [absL_congr hρ cs hb, Rho.push_at]
    show (w.heap.push _)[w.heap.size]? = _
    simp)
  exact ⟨_, v, _, _, _, by simp only [Sem.run_bind, hr, Result.andThen_ok, Sem.run_pure], .inl rfl, hk, r1, r2, r3, by simpa using hv, fun h => by cases h⟩
def bop (op : BinOp) (k : IntKind) (a b : Int) : Option Value :=
  match op with
  | .add => some (.int k (k.wrap (a + b)))
  | .sub => some (.int k (k.wrap (a - b)))
  | .mul => some (.int k (k.wrap (a * b)))
  | .and => some (.int k (Go.bits .and k a b))
  | .or => some (.int k (Go.bits .or k a b))
  | .xor => some (.int k (Go.bits .xor k a b))
  | .andNot => some (.int k (Go.bits .andNot k a b))
  | .eql => some (.bool (a == b))
  | .neq => some (.bool (a != b))
  | .lss => some (.bool (decide (a < b)))
  | .leq => some (.bool (decide (a ≤ b)))
  | .gtr => some (.bool (decide (a > b)))
  | .geq => some (.bool (decide (a ≥ b)))
  | _ => none
def kindEq : IntKind → IntKind → Bool
  | .i8, .i8 | .i16, .i16 | .i32, .i32 | .i64, .i64 | .u8, .u8 | .u16, .u16 | .u32, .u32 | .u64, .u64 => true
  | _, _ => false
theorem kindEq_eq {a b : IntKind} (h : kindEq a b = true) : a = b := by cases a <;> cases b <;> first | rfl | cases h
/-- Are two values of a type equal? -/
def vEqF (eq : TypeId → V → V → Option Bool) (P : Program) (xs ys : List V) : List Field → Option Bool
  | [] => some true
  | f :: fs =>
    match f.name == "_" with
    | true => vEqF eq P xs ys fs
    | false => match vPart P f.type xs f.offset, vPart P f.type ys f.offset with
      | some a, some b => match eq f.type a b, vEqF eq P xs ys fs with
        | some p, some q => some (p && q)
        | _, _ => none
      | _, _ => none
def vEqA (eq : TypeId → V → V → Option Bool) (P : Program) (e : TypeId) (n : Nat) (xs ys : List V) : Nat → Nat → Option Bool
  | 0, _ => some true
  | k + 1, i => match vPart P e xs (i * n), vPart P e ys (i * n) with
    | some a, some b => match eq e a b, vEqA eq P e n xs ys k (i + 1) with
      | some p, some q => some (p && q)
      | _, _ => none
    | _, _ => none
def vEq (P : Program) : Nat → TypeId → V → V → Option Bool
  | 0, _, _, _ => none
  | d + 1, t, x, y =>
    match P.underlying t with
    | some .bool => match x, y with
      | .raw (.bool a), .raw (.bool b) => some (a == b)
      | _, _ => none
    | some (.int _) => match x, y with
      | .raw (.int k a), .raw (.int k' b) => match kindEq k k' with
        | true => some (a == b)
        | false => none
      | _, _ => none
    | some .string => match x, y with
      | .raw (.string a), .raw (.string b) => some (a == b)
      | _, _ => none
    | some (.struct fs) => match x, y with
      | .agg xs, .agg ys => match P.stoodInHeld t with
        | true => none
        | false => vEqF (vEq P d) P xs ys fs.toList
      | _, _ => none
    | some (.array len e) => match x, y with
      | .agg xs, .agg ys => match P.info? e with
        | some i => vEqA (vEq P d) P e i.size xs ys len 0
        | none => none
      | _, _ => none
    | some (.pointer _) => match x, y with
      | .ptr _ _, .raw (.pointer none) | .raw (.pointer none), .ptr _ _ => some false
      | .el _ _ _ _, .raw (.pointer none) | .raw (.pointer none), .el _ _ _ _ => some false
      | .raw (.pointer none), .raw (.pointer none) => some true
      | _, _ => none
    | some (.slice _) => match x, y with
      | .sl _ _ _ _, .raw (.slice none _ _) | .raw (.slice none _ _), .sl _ _ _ _ => some false
      | .lst _ _ _ _ _, .raw (.slice none _ _) | .raw (.slice none _ _), .lst _ _ _ _ _ => some false
      | .sle _ _ _ _ _, .raw (.slice none _ _) | .raw (.slice none _ _), .sle _ _ _ _ _ => some false
      | .lse _ _ _ _ _, .raw (.slice none _ _) | .raw (.slice none _ _), .lse _ _ _ _ _ => some false
      | .raw (.slice none _ _), .raw (.slice none _ _) => some true
      | _, _ => none
    | some (.map _ _) => match x, y with
      | .mp _, .raw (.map none) | .raw (.map none), .mp _ => some false
      | .raw (.map none), .raw (.map none) => some true
      | _, _ => none
    | some (.func _ _ _) => match x, y with
      | .fn _ _ _, .raw .nilFunc | .raw .nilFunc, .fn _ _ _ => some false
      | .raw .nilFunc, .raw .nilFunc => some true
      | _, _ => none
    | some (.interface _) => match x, y with
      | .ifc _ _, .raw .nilIface | .raw .nilIface, .ifc _ _ => some false
      | _, _ => none
    | _ => none
def eqBad (P : Program) (t : TypeId) (x y : V) : Bool :=
  match x with
  | .agg _ => match y with
    | .agg _ => P.eqGuardType P.depth t
    | _ => false
  | _ => false
/-- Two operands, an operator. -/
def vBin {R : Type} (no : R) (P : Program) (op : BinOp) (t : TypeId) (x y : V) (K : V → R) : R :=
  match x, y with
  | .raw (.int k a), .raw (.int k' b) =>
    match op with
    | .shl => Br (decide (0 ≤ b)) (K (.raw (.int k (k.wrap (a * 2 ^ (min b.toNat k.bits)))))) no
    | .shr => Br (decide (0 ≤ b)) (K (.raw (.int k (a.fdiv (2 ^ (min b.toNat k.bits)))))) no
    | .quo => match kindEq k k' with
      | true => Br (b != 0) (K (.raw (.int k (k.wrap (a.tdiv b))))) no
      | false => no
    | .rem => match kindEq k k' with
      | true => Br (b != 0) (K (.raw (.int k (a.tmod b)))) no
      | false => no
    | _ => match kindEq k k' with
      | true => Wi no (bop op k a b) fun v => K (.raw v)
      | false => no
  | .md k m ((r, d) :: l), .raw (.int k' b) => match kindEq k k' with
    | true => match op with
     | .lss => match decide (b = 0) with
       | true => K (.raw (.bool false))
       | false => no
     | op => match decide (b = (d : Int)) && Nat.blt r d with
      | true => match op with
        | .quo => Br (decide (k.wrap ((mdVal m l : Nat) : Int) = ((mdVal m l : Nat) : Int))) (K (.md k m l)) no
        | .rem => K (.raw (.int k (r : Int)))
        | _ => no
      | false => no
    | false => no
  | .raw (.string a), .raw (.string b) =>
    match op with
    | .eql => K (.raw (.bool (a == b)))
    | .neq => K (.raw (.bool (!(a == b))))
    | _ => no
  | x, y =>
    match op with
    | .eql => Br (eqBad P t x y) no (Wi no (vEq P 10000 t x y) fun b => K (.raw (.bool b)))
    | .neq => Br (eqBad P t x y) no (Wi no (vEq P 10000 t x y) fun b => K (.raw (.bool (!b))))
    | _ => no
section
variable {P : Program} {ρ : Rho} {w : World}
theorem bop_sound {op : BinOp} {t : TypeId} {k : IntKind} {a b : Int} {v : Value} (h : bop op k a b = some v) : binOp op t (.int k a) (.int k b) = pure v := by
  unfold bop at h
  split at h <;> first
    | (simp only [Option.some.injEq] at h; subst h; simp [binOp, Op.intArith, Op.intCmp, Op.intBits, Go.bits]; done)
    | cases h
theorem eqFs_sound {d : Nat} {eq : TypeId → V → V → Option Bool} (ih : ∀ t x y b, eq t x y = some b → ∀ w, (Op.equalIn d t (x.abs ρ) (y.abs ρ)).run P w = .ok b w) (xs ys : List V) :
    ∀ (fs : List Field) (b : Bool) (w : World), vEqF eq P xs ys fs = some b → (Op.eqFields d (absL ρ xs).toArray (absL ρ ys).toArray fs).run P w = .ok b w := by
  intro fs
  induction fs with
  | nil => intro b w h; simp only [vEqF, Option.some.injEq] at h; subst h; simp [Op.eqFields]
  | cons f fs ihf =>
    intro b w h
    simp only [vEqF] at h
    split at h
    · rename_i hn
      have hn' : f.name = "_" := by simpa using hn
      simp only [Op.eqFields, hn', ne_eq, not_true_eq_false, if_false]
      exact ihf b w h
    · rename_i hn
      have hn' : f.name ≠ "_" := by simpa using hn
      split at h
      · rename_i p q hp hq
        split at h
        · rename_i r1 r2 h1 h2
          simp only [Option.some.injEq] at h
          subst h
          simp only [Op.eqFields, ne_eq, hn', not_false_eq_true, if_true, Sem.run_bind, run_part hp, run_part hq, Result.andThen_ok, ih _ _ _ _ h1]
          cases r1 with
          | false => simp
          | true => simpa using ihf r2 w h2
        · cases h
      · cases h
theorem eqAs_sound {d : Nat} {eq : TypeId → V → V → Option Bool} (ih : ∀ t x y b, eq t x y = some b → ∀ w, (Op.equalIn d t (x.abs ρ) (y.abs ρ)).run P w = .ok b w) (e : TypeId) (n : Nat) (xs ys : List V) (he : (sizeOf e).run P w = .ok n w) :
    ∀ (k i : Nat) (b : Bool) , vEqA eq P e n xs ys k i = some b →
      (((forIn (List.range' i k) ((none, ()) : Option Bool × Unit) fun i r => do
          let a ← part e (absL ρ xs).toArray (i * n)
          let b ← part e (absL ρ ys).toArray (i * n)
          let c ← Op.equalIn d e a b
          if (!c) = true then pure (ForInStep.done (some false, ())) else pure (ForInStep.yield (none, ()))) : Sem (Option Bool × Unit)).run P w) = .ok (if b then (none, ()) else (some false, ())) w := by
  intro k
  induction k with
  | zero => intro i b h; simp only [vEqA, Option.some.injEq] at h; subst h; simp
  | succ k ihk =>
    intro i b h
    simp only [vEqA] at h
    split at h
    · rename_i p q hp hq
      split at h
      · rename_i r1 r2 h1 h2
        simp only [Option.some.injEq] at h
        subst h
        simp only [List.range'_succ, List.forIn_cons, Sem.run_bind, run_part hp, run_part hq, Result.andThen_ok, ih _ _ _ _ h1]
        cases r1 with
        | false => simp
        | true => simpa using ihk (i + 1) r2 h2
      · cases h
    · cases h
set_option maxHeartbeats 2000000 in
theorem vEq_sound : ∀ (d : Nat) (t : TypeId) (x y : V) (b : Bool), vEq P d t x y = some b → ∀ w, (Op.equalIn d t (x.abs ρ) (y.abs ρ)).run P w = .ok b w := by
  intro d
  induction d with
  | zero => intro t x y b h; simp [vEq] at h
  | succ d ih =>
    intro t x y b h w
    simp only [vEq] at h
    split at h
    case h_1 ht => 
      split at h
      · simp only [Option.some.injEq] at h; subst h; simp [V.abs, Op.equalIn, run_underlying ht]
      · cases h
    case h_2 ht =>
      split at h
      · split at h
        · rename_i hk
          simp only [Option.some.injEq] at h; subst h; simp [V.abs, Op.equalIn, run_underlying ht, kindEq_eq hk]
        · cases h
      · cases h
    case h_3 ht =>
      split at h
      · simp only [Option.some.injEq] at h; subst h; simp [V.abs, Op.equalIn, run_underlying ht]
      · cases h
    case h_4 fs ht =>
      split at h
      · rename_i xs ys
        split at h
        · cases h
        · rename_i hp
          have hfo : P.fieldsOf t = fs := by simp [Program.fieldsOf, ht]
          have := run_equalIn_struct (P := P) w d t (absL ρ xs).toArray (absL ρ ys).toArray (by rw [hfo]; exact ht) hp
          simp only [V.abs, this, hfo]
          exact eqFs_sound ih xs ys fs.toList b w h
      · cases h
    case h_5 len e ht =>
      split at h
      · rename_i xs ys
        split at h
        · rename_i inf hinf
          have := eqAs_sound (w := w) ih e inf.size xs ys (run_sizeOf hinf) len 0 b h
          simp only [V.abs, Op.equalIn, Sem.run_bind, run_underlying ht, Result.andThen_ok, run_sizeOf hinf]
          simp only [Std.Legacy.Range.forIn_eq_forIn_range', Std.Legacy.Range.size, Nat.sub_zero, Nat.add_sub_cancel, Nat.div_one]
          rw [this]
          cases b <;> simp
        · cases h
      · cases h
    case h_6 ht => 
      split at h <;> first | (simp only [Option.some.injEq] at h; subst h; simp [V.abs, Op.equalIn, run_underlying ht]; done) | cases h
    case h_7 ht => 
      split at h <;> first | (simp only [Option.some.injEq] at h; subst h; simp [V.abs, Op.equalIn, run_underlying ht]; done) | cases h
    case h_8 ht => 
      split at h <;> first | (simp only [Option.some.injEq] at h; subst h; simp [V.abs, Op.equalIn, run_underlying ht]; done) | cases h
    case h_9 ht => 
      split at h <;> first | (simp only [Option.some.injEq] at h; subst h; simp [V.abs, Op.equalIn, run_underlying ht]; done) | cases h
    case h_10 ht => 
      split at h <;> first | (simp only [Option.some.injEq] at h; subst h; simp [V.abs, Op.equalIn, run_underlying ht]; done) | cases h
    case h_11 => cases h
end
end Go.Proofs.YtalgegmcllcnmaaRL
end
section
/- RL: what bits of words are, as bit vectors. -/
namespace Go.Proofs.YtalgegmcllcnmaaRL
open Go
set_option linter.unusedVariables false
theorem wrap_u64 (n : Int) : IntKind.u64.wrap n = n % 18446744073709551616 := by
  unfold IntKind.wrap
  simp [IntKind.signed, IntKind.bits]
theorem wrap_i64 (n : Int) : IntKind.i64.wrap n = (n + 9223372036854775808) % 18446744073709551616 - 9223372036854775808 := by
  unfold IntKind.wrap
  simp [IntKind.signed, IntKind.bits]
  split <;> omega
end Go.Proofs.YtalgegmcllcnmaaRL
end
section
/- Fields of words, as numbers: masks, shifts, ors of what has no bit in common. -/
namespace Go.Proofs.Ytalgegmcllcnmaa.isa
open Go Go.Proofs Go.Proofs.YtalgegmcllcnmaaRL
set_option linter.unusedVariables false
set_option linter.unusedSimpArgs false
theorem wrap_u32 (n : Int) : IntKind.u32.wrap n = n % 4294967296 := IntKind.wrap_u32 n
theorem wrap_u32_in {n : Int} (h0 : 0 ≤ n) (h1 : n < 4294967296) : IntKind.u32.wrap n = n := by rw [wrap_u32]; omega
theorem wrap_i64_in {n : Int} (h0 : -9223372036854775808 ≤ n) (h1 : n < 9223372036854775808) : IntKind.i64.wrap n = n := by rw [wrap_i64]; omega
theorem and_mask (a lo n : Nat) : a &&& ((2 ^ n - 1) * 2 ^ lo) = a / 2 ^ lo % 2 ^ n * 2 ^ lo := by
  apply Nat.eq_of_testBit_eq
  intro i
  rw [Nat.testBit_and]
  rcases Nat.lt_or_ge i lo with h | h
  · rw [Nat.testBit_mul_two_pow, Nat.testBit_mul_two_pow]
    simp [Nat.not_le.2 h]
  · rw [Nat.testBit_mul_two_pow, Nat.testBit_mul_two_pow, Nat.testBit_two_pow_sub_one, Nat.testBit_mod_two_pow, Nat.testBit_div_two_pow]
    simp only [h, decide_true, Bool.true_and]
    rw [show i - lo + lo = i by omega, Bool.and_comm]
theorem or_apart (a lo n x : Nat) (hx : x < 2 ^ n) (ha : a / 2 ^ lo % 2 ^ n = 0) : a ||| (x * 2 ^ lo) = a + x * 2 ^ lo := by
  have p1 : 0 < 2 ^ lo := Nat.two_pow_pos lo
  have p2 : 2 ^ (n + lo) = 2 ^ n * 2 ^ lo := Nat.pow_add ..
  have h0 : a % 2 ^ lo < 2 ^ lo := Nat.mod_lt _ p1
  have e1 : a = 2 ^ (n + lo) * (a / 2 ^ (n + lo)) + a % 2 ^ lo := by
    have h1 := Nat.div_add_mod a (2 ^ lo)
    have h2 := Nat.div_add_mod (a / 2 ^ lo) (2 ^ n)
    rw [ha, Nat.add_zero] at h2
    rw [Nat.div_div_eq_div_mul, Nat.mul_comm (2 ^ lo) (2 ^ n), ← p2] at h2
    rw [← h2] at h1
    have h3 : ∀ X, 2 ^ (n + lo) * X = 2 ^ lo * (2 ^ n * X) := fun X => by rw [p2, Nat.mul_comm (2 ^ n) (2 ^ lo), Nat.mul_assoc]
    rw [h3]
    exact h1.symm
  have e2 : a = 2 ^ (n + lo) * (a / 2 ^ (n + lo)) ||| a % 2 ^ lo := by
    rw [← Nat.two_pow_add_eq_or_of_lt (Nat.lt_of_lt_of_le h0 (Nat.pow_le_pow_right (by omega) (by omega)))]
    exact e1
  have e3 : a % 2 ^ lo ||| x * 2 ^ lo = a % 2 ^ lo + x * 2 ^ lo := by
    rw [Nat.or_comm, Nat.mul_comm, ← Nat.two_pow_add_eq_or_of_lt h0, Nat.add_comm]
  have h3 : a % 2 ^ lo + x * 2 ^ lo < 2 ^ (n + lo) := by
    rw [p2]
    have : (x + 1) * 2 ^ lo ≤ 2 ^ n * 2 ^ lo := Nat.mul_le_mul_right _ hx
    rw [Nat.add_mul, Nat.one_mul] at this
    omega
  calc a ||| x * 2 ^ lo = (2 ^ (n + lo) * (a / 2 ^ (n + lo)) ||| a % 2 ^ lo) ||| x * 2 ^ lo := by rw [← e2]
    _ = 2 ^ (n + lo) * (a / 2 ^ (n + lo)) ||| (a % 2 ^ lo + x * 2 ^ lo) := by rw [Nat.or_assoc, e3]
    _ = 2 ^ (n + lo) * (a / 2 ^ (n + lo)) + (a % 2 ^ lo + x * 2 ^ lo) := (Nat.two_pow_add_eq_or_of_lt h3 _).symm
    _ = a + x * 2 ^ lo := by rw [← Nat.add_assoc, ← e1]
theorem nat_and (k : IntKind) (a b : Nat) (hk : k.signed = false) (ha : a < 2 ^ k.bits) (hb : b < 2 ^ k.bits) : Go.bits .and k (a : Int) (b : Int) = ((a &&& b : Nat) : Int) := by
  have e1 : BitVec.ofInt k.bits (a : Int) = BitVec.ofNat k.bits a := by simp
  have e2 : BitVec.ofInt k.bits (b : Int) = BitVec.ofNat k.bits b := by simp
  have hw : ∀ n : Nat, n < 2 ^ k.bits → k.wrap (n : Int) = (n : Int) := by
    intro n hn
    unfold IntKind.wrap
    simp only [hk, Bool.false_and, Bool.false_eq_true, if_false]
    exact_mod_cast Nat.mod_eq_of_lt hn
  unfold Go.bits
  simp only [e1, e2, BitVec.toNat_and, BitVec.toNat_ofNat, Nat.mod_eq_of_lt ha, Nat.mod_eq_of_lt hb]
  exact hw _ (Nat.lt_of_le_of_lt Nat.and_le_left ha)
theorem nat_or (k : IntKind) (a b : Nat) (hk : k.signed = false) (ha : a < 2 ^ k.bits) (hb : b < 2 ^ k.bits) : Go.bits .or k (a : Int) (b : Int) = ((a ||| b : Nat) : Int) := by
  have e1 : BitVec.ofInt k.bits (a : Int) = BitVec.ofNat k.bits a := by simp
  have e2 : BitVec.ofInt k.bits (b : Int) = BitVec.ofNat k.bits b := by simp
  have hw : ∀ n : Nat, n < 2 ^ k.bits → k.wrap (n : Int) = (n : Int) := by
    intro n hn
    unfold IntKind.wrap
    simp only [hk, Bool.false_and, Bool.false_eq_true, if_false]
    exact_mod_cast Nat.mod_eq_of_lt hn
  unfold Go.bits
  simp only [e1, e2, BitVec.toNat_or, BitVec.toNat_ofNat, Nat.mod_eq_of_lt ha, Nat.mod_eq_of_lt hb]
  exact hw _ (Nat.or_lt_two_pow ha hb)
theorem nat_andNot (k : IntKind) (a lo n : Nat) (hk : k.signed = false) (ha : a < 2 ^ k.bits) (hn : n + lo ≤ k.bits) : Go.bits .andNot k (a : Int) (((2 ^ n - 1) * 2 ^ lo : Nat) : Int) = ((a - a / 2 ^ lo % 2 ^ n * 2 ^ lo : Nat) : Int) := by
  have hm : (2 ^ n - 1) * 2 ^ lo < 2 ^ k.bits := by
    have h1 : (2 ^ n - 1) * 2 ^ lo < 2 ^ n * 2 ^ lo := Nat.mul_lt_mul_of_pos_right (by have := Nat.two_pow_pos n; omega) (Nat.two_pow_pos lo)
    rw [← Nat.pow_add] at h1
    exact Nat.lt_of_lt_of_le h1 (Nat.pow_le_pow_right (by omega) hn)
  have e1 : BitVec.ofInt k.bits (a : Int) = BitVec.ofNat k.bits a := by simp
  have e2 : BitVec.ofInt k.bits (((2 ^ n - 1) * 2 ^ lo : Nat) : Int) = BitVec.ofNat k.bits ((2 ^ n - 1) * 2 ^ lo) := by rw [BitVec.ofInt_natCast]
  have hw : ∀ n : Nat, n < 2 ^ k.bits → k.wrap (n : Int) = (n : Int) := by
    intro n hn
    unfold IntKind.wrap
    simp only [hk, Bool.false_and, Bool.false_eq_true, if_false]
    exact_mod_cast Nat.mod_eq_of_lt hn
  have hle : a / 2 ^ lo % 2 ^ n * 2 ^ lo ≤ a := Nat.le_trans (Nat.mul_le_mul_right _ (Nat.mod_le _ _)) (Nat.div_mul_le_self _ _)
  let z := a - a / 2 ^ lo % 2 ^ n * 2 ^ lo
  have hz0 : z / 2 ^ lo % 2 ^ n = 0 := by
    have h1 : z = (a / 2 ^ lo - a / 2 ^ lo % 2 ^ n) * 2 ^ lo + a % 2 ^ lo := by
      have h2 := Nat.div_add_mod a (2 ^ lo)
      have h3 : a / 2 ^ lo % 2 ^ n ≤ a / 2 ^ lo := Nat.mod_le _ _
      show a - a / 2 ^ lo % 2 ^ n * 2 ^ lo = _
      rw [Nat.sub_mul]
      rw [Nat.mul_comm (2 ^ lo)] at h2
      have h4 : a / 2 ^ lo % 2 ^ n * 2 ^ lo ≤ a / 2 ^ lo * 2 ^ lo := Nat.mul_le_mul_right _ h3
      omega
    rw [h1, Nat.mul_comm, Nat.mul_add_div (Nat.two_pow_pos lo), Nat.div_eq_of_lt (Nat.mod_lt _ (Nat.two_pow_pos lo)), Nat.add_zero]
    have h5 := Nat.div_add_mod (a / 2 ^ lo) (2 ^ n)
    have h6 : a / 2 ^ lo - a / 2 ^ lo % 2 ^ n = 2 ^ n * (a / 2 ^ lo / 2 ^ n) := by omega
    rw [h6, Nat.mul_mod_right]
  have hzy : z ||| (a / 2 ^ lo % 2 ^ n * 2 ^ lo) = a := by
    rw [or_apart z lo n _ (Nat.mod_lt _ (Nat.two_pow_pos n)) hz0]
    show a - _ + _ = a
    omega
  have hzl : z < 2 ^ k.bits := Nat.lt_of_le_of_lt (Nat.sub_le _ _) ha
  have hyl : a / 2 ^ lo % 2 ^ n * 2 ^ lo < 2 ^ k.bits := Nat.lt_of_le_of_lt hle ha
  have hzm : z &&& ((2 ^ n - 1) * 2 ^ lo) = 0 := by rw [and_mask, hz0, Nat.zero_mul]
  have hb : BitVec.ofNat k.bits a &&& ~~~ BitVec.ofNat k.bits ((2 ^ n - 1) * 2 ^ lo) = BitVec.ofNat k.bits z := by
    apply BitVec.eq_of_getLsbD_eq
    intro i hi
    have t1 : a.testBit i = (z.testBit i || (a / 2 ^ lo % 2 ^ n * 2 ^ lo).testBit i) := by rw [← Nat.testBit_or, hzy]
    have t2 : (z.testBit i && ((2 ^ n - 1) * 2 ^ lo).testBit i) = false := by rw [← Nat.testBit_and, hzm, Nat.zero_testBit]
    have t3 : (a / 2 ^ lo % 2 ^ n * 2 ^ lo).testBit i = (a.testBit i && ((2 ^ n - 1) * 2 ^ lo).testBit i) := by rw [← Nat.testBit_and, and_mask]
    simp only [BitVec.getLsbD_and, BitVec.getLsbD_not, BitVec.getLsbD_ofNat, hi, decide_true, Bool.true_and]
    rw [t3] at t1
    revert t1 t2
    cases a.testBit i <;> cases z.testBit i <;> cases ((2 ^ n - 1) * 2 ^ lo).testBit i <;> simp
  unfold Go.bits
  simp only [e1, e2]
  rw [hb, BitVec.toNat_ofNat, Nat.mod_eq_of_lt hzl]
  exact hw _ hzl
/-- A field laid in, as the code lays it. -/
def putM (w : Int) (m p : Int) (m2 v : Int) : Int := Go.bits .or .u32 (Go.bits .andNot .u32 w m) (IntKind.u32.wrap (Go.bits .and .u32 v m2 * p))
theorem and_u32 {x : Int} (n : Nat) (h0 : 0 ≤ x) (h1 : x < 4294967296) (hn : n ≤ 32) : Go.bits .and .u32 x (((2 ^ n - 1 : Nat)) : Int) = x % ((2 ^ n : Nat) : Int) := by
  obtain ⟨a, rfl⟩ := Int.eq_ofNat_of_zero_le h0
  have hm : 2 ^ n - 1 < 2 ^ IntKind.u32.bits := by
    have : 2 ^ n ≤ 2 ^ 32 := Nat.pow_le_pow_right (by omega) hn
    have h2 := Nat.two_pow_pos n
    show 2 ^ n - 1 < 2 ^ 32
    omega
  rw [nat_and .u32 a (2 ^ n - 1) rfl (by show a < 2 ^ 32; omega) hm, Nat.and_two_pow_sub_one_eq_mod]
  rfl
theorem putM_eq {w v : Int} (lo n : Nat) {m p m2 : Int} (hm : m = (((2 ^ n - 1) * 2 ^ lo : Nat) : Int)) (hp : p = ((2 ^ lo : Nat) : Int)) (hm2 : m2 = ((2 ^ n - 1 : Nat) : Int)) (hl : n + lo ≤ 32) (w0 : 0 ≤ w) (w1 : w < 4294967296) (v0 : 0 ≤ v) (v1 : v < 4294967296) :
    putM w m p m2 v = w - w / p % ((2 ^ n : Nat) : Int) * p + v % ((2 ^ n : Nat) : Int) * p := by
  subst hm hp hm2
  obtain ⟨a, rfl⟩ := Int.eq_ofNat_of_zero_le w0
  obtain ⟨b, rfl⟩ := Int.eq_ofNat_of_zero_le v0
  unfold putM
  rw [and_u32 n v0 v1 (by omega), nat_andNot .u32 a lo n rfl (by show a < 2 ^ 32; omega) hl]
  have hx : b % 2 ^ n < 2 ^ n := Nat.mod_lt _ (Nat.two_pow_pos n)
  have hxl : b % 2 ^ n * 2 ^ lo < 2 ^ 32 := by
    have h1 : b % 2 ^ n * 2 ^ lo < 2 ^ n * 2 ^ lo := Nat.mul_lt_mul_of_pos_right hx (Nat.two_pow_pos lo)
    rw [← Nat.pow_add] at h1
    exact Nat.lt_of_lt_of_le h1 (Nat.pow_le_pow_right (by omega) hl)
  have e1 : ((b : Int) % ((2 ^ n : Nat) : Int)) * ((2 ^ lo : Nat) : Int) = ((b % 2 ^ n * 2 ^ lo : Nat) : Int) := by rw [Int.natCast_mul, Int.natCast_emod]
  rw [e1, wrap_u32_in (by omega) (by omega)]
  have hle : a / 2 ^ lo % 2 ^ n * 2 ^ lo ≤ a := Nat.le_trans (Nat.mul_le_mul_right _ (Nat.mod_le _ _)) (Nat.div_mul_le_self _ _)
  have hz0 : (a - a / 2 ^ lo % 2 ^ n * 2 ^ lo) / 2 ^ lo % 2 ^ n = 0 := by
    have h1 : a - a / 2 ^ lo % 2 ^ n * 2 ^ lo = (a / 2 ^ lo - a / 2 ^ lo % 2 ^ n) * 2 ^ lo + a % 2 ^ lo := by
      have h2 := Nat.div_add_mod a (2 ^ lo)
      have h3 : a / 2 ^ lo % 2 ^ n ≤ a / 2 ^ lo := Nat.mod_le _ _
      rw [Nat.sub_mul]
      rw [Nat.mul_comm (2 ^ lo)] at h2
      have h4 : a / 2 ^ lo % 2 ^ n * 2 ^ lo ≤ a / 2 ^ lo * 2 ^ lo := Nat.mul_le_mul_right _ h3
      omega
    rw [h1, Nat.mul_comm, Nat.mul_add_div (Nat.two_pow_pos lo), Nat.div_eq_of_lt (Nat.mod_lt _ (Nat.two_pow_pos lo)), Nat.add_zero]
    have h5 := Nat.div_add_mod (a / 2 ^ lo) (2 ^ n)
    have h6 : a / 2 ^ lo - a / 2 ^ lo % 2 ^ n = 2 ^ n * (a / 2 ^ lo / 2 ^ n) := by omega
    rw [h6, Nat.mul_mod_right]
  rw [nat_or .u32 _ _ rfl (by show _ < 2 ^ 32; omega) (by show _ < 2 ^ 32; exact hxl), or_apart _ lo n _ hx hz0]
  rw [Int.natCast_add, Int.natCast_sub hle, Int.natCast_mul, Int.natCast_emod, Int.natCast_ediv]
end Go.Proofs.Ytalgegmcllcnmaa.isa
end
