/- RL, a logic of relative places: code is run on values whose places are numbered by the proof (V), over a store of the blocks that are known (Sto); whatever else there is in memory does not matter. 'Ev' runs code by computation alone; 'Ev.sound' says that what it comes to is what the machine comes to. No law of any program stands here. -/
import Derived.Calls
import Derived.Scope
import Derived.Below
import Derived.Tactics
import Derived.Laws.Cells
import Derived.KernelRfl
import Derived.IntWalk
import Derived.TacticsIn
import Derived.OrdersIn
import Derived.RangeFuncLeaves
namespace Go.Proofs.YtpahclogghdnpaaDoorRL
open Go
set_option linter.unusedVariables false
set_option linter.unusedSimpArgs false
/-- A value: 'raw' as it is; a place is the number of a block of the store, and an offset. -/
inductive V where
  | raw (v : Value)
  /-- A number told by its rests: m, taken times and added to, innermost last. -/
  | md (k : IntKind) (m : Nat) (l : List (Nat × Nat))
  | ptr (i off : Nat)
  | sl (i off len cap : Nat)
  | mp (i : Nat)
  /-- Cell f of element k (of z cells each) of block i. -/
  | el (i z k f : Nat)
  /-- A slice of block i from element k (of z cells each) on. -/
  | sle (i z k len cap : Nat)
  /-- A slice of n whose block is i's, from element e (of z cells) on; k's number is the room, of which e is gone. -/
  | lse (i k z e n : Nat)
  /-- What is left behind the last one of such a slice of l. -/
  | lend (i k o e l z : Nat)
  /-- The yield of the loop whose record is i's. -/
  | yld (i : Nat)
  /-- A slice of n whose block is i's, from off on; k's number is the room, of which e is gone. -/
  | lst (i k off e n : Nat)
  | fn (f : Fn) (first captured : List V)
  | ifc (t : TypeId) (v : V)
  | agg (cs : List V)
  | tup (vs : List V)
  deriving Inhabited
def mdVal (m : Nat) : List (Nat × Nat) → Nat
  | [] => m
  | p :: l => mdVal m l * p.2 + p.1
/-- Where the blocks of the store lie in memory. -/
abbrev Rho := Nat → Nat × Nat
mutual
def V.abs (ρ : Rho) : V → Value
  | .raw v => v
  | .md k m l => .int k (mdVal m l : Nat)
  | .ptr i o => .pointer (some ⟨(ρ i).1, (ρ i).2 + o, none⟩)
  | .sl i o n c => .slice (some ⟨(ρ i).1, (ρ i).2 + o, none⟩) n c
  | .mp i => .map (some (ρ i).1)
  | .yld i => .func (.yield (ρ i).1) #[] #[]
  | .lst i k o e n => .slice (some ⟨(ρ i).1, (ρ i).2 + o, none⟩) n ((ρ k).1 - e)
  | .el i z k f => .pointer (some ⟨(ρ i).1, (ρ i).2 + (k * z + f), none⟩)
  | .sle i z k n c => .slice (some ⟨(ρ i).1, (ρ i).2 + k * z, none⟩) n c
  | .lse i k z e n => .slice (some ⟨(ρ i).1, (ρ i).2 + e * z, none⟩) n ((ρ k).1 - e)
  | .lend i k o e l z => .slice (some ⟨(ρ i).1, (ρ i).2 + (if (ρ k).1 - e = l then o else o + l * z), none⟩) 0 ((ρ k).1 - e - l)
  | .fn f a b => .func f (absL ρ a).toArray (absL ρ b).toArray
  | .ifc t v => .iface t (v.abs ρ)
  | .agg cs => .agg (absL ρ cs).toArray
  | .tup vs => .tuple (absL ρ vs).toArray
def absL (ρ : Rho) : List V → List Value
  | [] => []
  | v :: vs => v.abs ρ :: absL ρ vs
end
theorem absL_map (ρ : Rho) (l : List V) : absL ρ l = l.map (V.abs ρ) := by
  induction l with
  | nil => simp [absL]
  | cons v l ih => simp [absL, ih]
mutual
/-- All places of a value lie below block n. -/
def V.bd (n : Nat) : V → Prop
  | .raw _ => True
  | .md _ _ _ => True
  | .ptr i _ => i < n
  | .sl i _ _ _ => i < n
  | .mp i => i < n
  | .yld i => i < n
  | .lst i k _ _ _ => i < n ∧ k < n
  | .el i _ _ _ => i < n
  | .sle i _ _ _ _ => i < n
  | .lse i k _ _ _ => i < n ∧ k < n
  | .lend i k _ _ _ _ => i < n ∧ k < n
  | .fn _ a b => bdL n a ∧ bdL n b
  | .ifc _ v => v.bd n
  | .agg cs => bdL n cs
  | .tup vs => bdL n vs
def bdL (n : Nat) : List V → Prop
  | [] => True
  | v :: vs => v.bd n ∧ bdL n vs
end
theorem bdL_iff {n : Nat} {l : List V} : bdL n l ↔ ∀ v ∈ l, v.bd n := by
  induction l with
  | nil => simp [bdL]
  | cons v l ih => simp [bdL, ih]
mutual
theorem V.abs_congr {ρ ρ' : Rho} {n : Nat} (h : ∀ i, i < n → ρ' i = ρ i) : ∀ (v : V), v.bd n → v.abs ρ' = v.abs ρ
  | .raw v, _ => by simp [V.abs]
  | .md k m l, _ => by simp [V.abs]
  | .ptr i o, hb => by simp only [V.abs]; rw [h i (by simpa [V.bd] using hb)]
  | .sl i o n c, hb => by simp only [V.abs]; rw [h i (by simpa [V.bd] using hb)]
  | .mp i, hb => by simp only [V.abs]; rw [h i (by simpa [V.bd] using hb)]
  | .yld i, hb => by simp only [V.abs]; rw [h i (by simpa [V.bd] using hb)]
  | .lst i k o e m, hb => by simp only [V.bd] at hb; simp only [V.abs]; rw [h i hb.1, h k hb.2]
  | .el i z k f, hb => by simp only [V.abs]; rw [h i (by simpa [V.bd] using hb)]
  | .sle i z k n c, hb => by simp only [V.abs]; rw [h i (by simpa [V.bd] using hb)]
  | .lse i k z e m, hb => by simp only [V.bd] at hb; simp only [V.abs]; rw [h i hb.1, h k hb.2]
  | .lend i k o e l z, hb => by simp only [V.bd] at hb; simp only [V.abs]; rw [h i hb.1, h k hb.2]
  | .fn f a b, hb => by simp only [V.bd] at hb; simp only [V.abs]; rw [absL_congr h a hb.1, absL_congr h b hb.2]
  | .ifc t v, hb => by simp only [V.bd] at hb; simp only [V.abs]; rw [V.abs_congr h v hb]
  | .agg cs, hb => by simp only [V.bd] at hb; simp only [V.abs]; rw [absL_congr h cs hb]
  | .tup vs, hb => by simp only [V.bd] at hb; simp only [V.abs]; rw [absL_congr h vs hb]
theorem absL_congr {ρ ρ' : Rho} {n : Nat} (h : ∀ i, i < n → ρ' i = ρ i) : ∀ (l : List V), bdL n l → absL ρ' l = absL ρ l
  | [], _ => by simp [absL]
  | v :: l, hb => by simp only [bdL] at hb; simp only [absL]; rw [V.abs_congr h v hb.1, absL_congr h l hb.2]
end
mutual
theorem V.bd_mono {n m : Nat} (h : n ≤ m) : ∀ (v : V), v.bd n → v.bd m
  | .raw v, _ => by simp [V.bd]
  | .md k m l, _ => by simp [V.bd]
  | .ptr i o, hb => by simp only [V.bd] at hb ⊢; omega
  | .sl i o _ c, hb => by simp only [V.bd] at hb ⊢; omega
  | .mp i, hb => by simp only [V.bd] at hb ⊢; omega
  | .yld i, hb => by simp only [V.bd] at hb ⊢; omega
  | .lst i k o e m, hb => by simp only [V.bd] at hb ⊢; omega
  | .el i z k f, hb => by simp only [V.bd] at hb ⊢; omega
  | .sle i z k _ c, hb => by simp only [V.bd] at hb ⊢; omega
  | .lse i k z e m, hb => by simp only [V.bd] at hb ⊢; omega
  | .lend i k o e l z, hb => by simp only [V.bd] at hb ⊢; omega
  | .fn f a b, hb => by simp only [V.bd] at hb ⊢; exact ⟨bdL_mono h a hb.1, bdL_mono h b hb.2⟩
  | .ifc t v, hb => by simp only [V.bd] at hb ⊢; exact V.bd_mono h v hb
  | .agg cs, hb => by simp only [V.bd] at hb ⊢; exact bdL_mono h cs hb
  | .tup vs, hb => by simp only [V.bd] at hb ⊢; exact bdL_mono h vs hb
theorem bdL_mono {n m : Nat} (h : n ≤ m) : ∀ (l : List V), bdL n l → bdL m l
  | [], _ => by simp [bdL]
  | v :: l, hb => by simp only [bdL] at hb ⊢; exact ⟨V.bd_mono h v hb.1, bdL_mono h l hb.2⟩
end
def find : List (Nat × V) → Nat → Option V
  | [], _ => none
  | (k, v) :: l, t => match Nat.beq k t with
    | true => some v
    | false => find l t
/-- A column of an array: a kind, and what stands at each place; or nothing is known. -/
inductive Col where
  | int (k : IntKind) (f : Nat → Int)
  | bool (f : Nat → Bool)
  | str (f : Nat → ByteArray)
  | any
  deriving Inhabited
def Col.at : Col → Nat → Option Value
  | .int k f, j => some (.int k (f j))
  | .bool f, j => some (.bool (f j))
  | .str f, j => some (.string (f j))
  | .any, _ => none
/-- An array's block: only read; its own; its own with more room, k's number of elements. -/
inductive AM where
  | ro
  | own
  | grow (k : Nat)
  deriving Inhabited
/-- Cells hold n elements of such columns. -/
def holdsA (cols : List Col) (n : Nat) (cs : List Value) : Prop := ∀ (j c : Nat) (col : Col) (u : Value), j < n → cols[c]? = some col → col.at j = some u → cs[j * cols.length + c]? = some u
/-- A block of the store: one of the run's own; one that is only read, from a place on; one that is not known any more. -/
inductive Ent where
  | own (cs : List V) (elem : TypeId)
  | ro (cs : List V)
  | map (es : List (V × V × Nat)) (clock : Nat)
  /-- One of its own of which the first cells are known; k's number is how many elements of that size it has room for. -/
  | lst (cs : List V) (elem : TypeId) (k size : Nat)
  /-- The record of a loop over a function: what its frame had; the temporaries of a round's values; the code; the jump that a round has left. -/
  | lp (e : List (Nat × V)) (n : Nat) (ps : Array Tmp) (asg body : Code) (pend : Option Code)
  /-- Elements of flat cells, told by columns. -/
  | arr (m : AM) (cols : List Col) (n : Nat) (elem : TypeId)
  /-- The variable g, and what stands there; nobody writes it. -/
  | glob (g : Nat) (cs : List Value)
  | no
  deriving Inhabited
abbrev Sto := List Ent
def Ent.isOwn : Ent → Bool
  | .own _ _ | .map _ _ | .lst _ _ _ _ | .lp _ _ _ _ _ _ => true
  | .arr m _ _ _ => match m with
    | .ro => false
    | _ => true
  | _ => false
def Ent.live : Ent → Bool
  | .no => false
  | _ => true
def Ent.cells : Ent → Option (List V)
  | .own cs _ | .ro cs | .lst cs _ _ _ => some cs
  | _ => none
def Ent.bd (n : Nat) : Ent → Prop
  | .own cs _ | .ro cs => bdL n cs
  | .lst cs _ k _ => bdL n cs ∧ k < n
  | .map es _ => ∀ e ∈ es, e.1.bd n ∧ e.2.1.bd n
  | .lp e _ _ _ _ _ => ∀ t v, find e t = some v → v.bd n
  | .arr m _ _ _ => match m with
    | .grow k => k < n
    | _ => True
  | .glob _ _ => True
  | .no => True
def absE (ρ : Rho) (e : V × V × Nat) : MapEntry := { key := e.1.abs ρ, val := e.2.1.abs ρ, born := e.2.2 }
/-- What memory holds of a block. -/
def RepE (ρ : Rho) (w : World) (i : Nat) : Ent → Prop
  | .own cs t => w.heap[(ρ i).1]? = some (.cells (absL ρ cs).toArray t (0, 0)) ∧ (ρ i).2 = 0
  | .ro cs => (∃ a t x, w.heap[(ρ i).1]? = some (.cells a t x)) ∧ ∀ j v, cs[j]? = some v → w.cell? ⟨(ρ i).1, (ρ i).2 + j, none⟩ = some (v.abs ρ)
  | .map es c => w.heap[(ρ i).1]? = some (.map (es.map (absE ρ)).toArray c)
  | .lst cs t k z => ∃ rest : List Value, w.heap[(ρ i).1]? = some (.cells (absL ρ cs ++ rest).toArray t (0, 0)) ∧ (ρ i).2 = 0 ∧ cs.length + rest.length = (ρ k).1 * z
  | .lp e n ps asg body pend => ∃ r : Loop, w.heap[(ρ i).1]? = some (.loop r) ∧ r.state = (match pend with | none => .ready | some _ => .done) ∧ r.pending = pend ∧ r.params = ps ∧ r.assign = asg ∧ r.body = body ∧ r.tmps.size = n ∧ ∀ t v, find e t = some v → r.tmps[t]? = some (v.abs ρ)
  | .arr m cols n t => ∃ cs : List Value, cs.length = n * cols.length ∧ (∀ v ∈ cs, v.oneCell' = true) ∧ holdsA cols n cs ∧ match m with
    | .ro => (∃ a t x, w.heap[(ρ i).1]? = some (.cells a t x)) ∧ ∀ j v, cs[j]? = some v → w.cell? ⟨(ρ i).1, (ρ i).2 + j, none⟩ = some v
    | .own => w.heap[(ρ i).1]? = some (.cells cs.toArray t (0, 0)) ∧ (ρ i).2 = 0
    | .grow k => ∃ rest : List Value, w.heap[(ρ i).1]? = some (.cells (cs ++ rest).toArray t (0, 0)) ∧ (ρ i).2 = 0 ∧ cs.length + rest.length = (ρ k).1 * cols.length
  | .glob g cs => (∃ t x, w.heap[(ρ i).1]? = some (.cells cs.toArray t x)) ∧ ρ i = (g, 0)
  | .no => True
/-- An array as plain cells. -/
def flatE (m : AM) (cs : List Value) (t : TypeId) (z : Nat) : Ent :=
  match m with
  | .ro => .ro (cs.map .raw)
  | .own => .own (cs.map .raw) t
  | .grow k => .lst (cs.map .raw) t k z
theorem absL_raws (ρ : Rho) (l : List Value) : absL ρ (l.map .raw) = l := by
  induction l with
  | nil => simp [absL]
  | cons v l ih => simp only [List.map_cons, absL, ih, V.abs]
theorem repE_arr {ρ : Rho} {w : World} {i : Nat} {m : AM} {cols : List Col} {n : Nat} {t : TypeId} : RepE ρ w i (.arr m cols n t) ↔ ∃ cs : List Value, cs.length = n * cols.length ∧ (∀ v ∈ cs, v.oneCell' = true) ∧ holdsA cols n cs ∧ RepE ρ w i (flatE m cs t cols.length) := by
  constructor
  · rintro ⟨cs, h1, h2, h3, h4⟩
    refine ⟨cs, h1, h2, h3, ?_⟩
    cases m with
    | ro =>
      refine ⟨h4.1, fun j v hj => ?_⟩
      rw [List.getElem?_map] at hj
      obtain ⟨u, hu, rfl⟩ := Option.map_eq_some_iff.1 hj
      exact h4.2 j u hu
    | own => exact ⟨by rw [absL_raws]; exact h4.1, h4.2⟩
    | grow k =>
      obtain ⟨rest, g1, g2, g3⟩ := h4
      exact ⟨rest, by rw [absL_raws]; exact g1, g2, by rw [List.length_map]; exact g3⟩
  · rintro ⟨cs, h1, h2, h3, h4⟩
    refine ⟨cs, h1, h2, h3, ?_⟩
    cases m with
    | ro =>
      refine ⟨h4.1, fun j v hj => ?_⟩
      have := h4.2 j (.raw v) (by rw [List.getElem?_map, hj]; rfl)
      exact this
    | own => have := h4.1; rw [absL_raws] at this; exact ⟨this, h4.2⟩
    | grow k =>
      obtain ⟨rest, g1, g2, g3⟩ := h4
      rw [absL_raws] at g1
      rw [List.length_map] at g3
      exact ⟨rest, g1, g2, g3⟩
structure Rep (ρ : Rho) (s : Sto) (w : World) : Prop where
  ent : ∀ i e, s[i]? = some e → RepE ρ w i e
  sep : ∀ i j e f, s[i]? = some e → s[j]? = some f → e.isOwn = true → f.live = true → i ≠ j → (ρ i).1 ≠ (ρ j).1
def sbd (s : Sto) : Prop := ∀ (i : Nat) (e : Ent), s[i]? = some e → e.bd s.length
/-- What a step may do: it changes the store's own blocks alone, and makes new ones. -/
structure Ext (s : Sto) (ρ : Rho) (w : World) (s' : Sto) (ρ' : Rho) (w' : World) : Prop where
  len : s.length ≤ s'.length
  same : ∀ i, i < s.length → ρ' i = ρ i
  own : ∀ (i : Nat) e', s'[i]? = some e' → e'.isOwn = true → (∃ j e, s[j]? = some e ∧ e.isOwn = true ∧ (ρ j).1 = (ρ' i).1) ∨ w.heap.size ≤ (ρ' i).1
  os : w'.os = w.os
  tape : w'.tape = w.tape
  output : w'.output = w.output
  size : w.heap.size ≤ w'.heap.size
  block : ∀ b, b < w.heap.size → (∀ i e, s[i]? = some e → e.isOwn = true → (ρ i).1 ≠ b) → w'.heap[b]? = w.heap[b]?
theorem Ext.refl (s : Sto) (ρ : Rho) (w : World) : Ext s ρ w s ρ w :=
  ⟨Nat.le_refl _, fun _ _ => rfl, fun i e h ho => .inl ⟨i, e, h, ho, rfl⟩, rfl, rfl, rfl, Nat.le_refl _, fun _ _ _ => rfl⟩
theorem Ext.trans {s s' s'' : Sto} {ρ ρ' ρ'' : Rho} {w w' w'' : World} (h : Ext s ρ w s' ρ' w') (k : Ext s' ρ' w' s'' ρ'' w'') : Ext s ρ w s'' ρ'' w'' where
  len := Nat.le_trans h.len k.len
  same i hi := (k.same i (Nat.lt_of_lt_of_le hi h.len)).trans (h.same i hi)
  own i e' he ho := by
    rcases k.own i e' he ho with ⟨j, e, h1, h2, h3⟩ | h2
    · rcases h.own j e h1 h2 with ⟨j', e', k1, k2, k3⟩ | h4
      · exact .inl ⟨j', e', k1, k2, k3.trans h3⟩
      · exact .inr (by rw [← h3]; exact h4)
    · exact .inr (Nat.le_trans h.size h2)
  os := k.os.trans h.os
  tape := k.tape.trans h.tape
  output := k.output.trans h.output
  size := Nat.le_trans h.size k.size
  block b hb hn := by
    rw [k.block b (Nat.lt_of_lt_of_le hb h.size), h.block b hb hn]
    intro i e he ho
    rcases h.own i e he ho with ⟨j, f, h1, h2, h3⟩ | h2
    · rw [← h3]
      exact hn j f h1 h2
    · omega
theorem Ext.drawn {s s' : Sto} {ρ ρ' : Rho} {w w' : World} (h : Ext s ρ w s' ρ' w') (n : Nat) : Ext s ρ w s' ρ' { w' with drawn := n } :=
  ⟨h.len, h.same, h.own, h.os, h.tape, h.output, h.size, h.block⟩
theorem RepE.congr2 {ρ ρ' : Rho} {w w' : World} {i n : Nat} {e : Ent} (hρ : ∀ j, j < n → ρ' j = ρ j) (hi : ρ' i = ρ i) (hb : e.bd n) (hblk : w'.heap[(ρ i).1]? = w.heap[(ρ i).1]?) (hsz : w.heap.size ≤ w'.heap.size) (h : RepE ρ w i e) : RepE ρ' w' i e := by
  cases e with
  | own cs t =>
    simp only [RepE] at h ⊢
    rw [hi, hblk, absL_congr hρ cs hb]
    exact h
  | ro cs =>
    simp only [RepE] at h ⊢
    rw [hi]
    refine ⟨by rw [hblk]; exact h.1, fun j v hv => ?_⟩
    have hvb : v.bd n := (bdL_iff.1 hb) v (List.mem_of_getElem? hv)
    rw [V.abs_congr hρ v hvb, ← h.2 j v hv]
    simp only [World.cell?, hblk]
  | map es c =>
    simp only [RepE] at h ⊢
    rw [hi, hblk, h]
    congr 3
    refine List.map_congr_left fun e he => ?_
    have := hb e he
    simp only [absE, V.abs_congr hρ _ this.1, V.abs_congr hρ _ this.2]
  | lst cs t k z =>
    obtain ⟨rest, h1, h2, h3⟩ := h
    refine ⟨rest, ?_, by rw [hi]; exact h2, by rw [hρ k hb.2]; exact h3⟩
    rw [hi, hblk, absL_congr hρ cs hb.1]
    exact h1
  | lp e m ps asg body pend =>
    obtain ⟨r, h1, h2, h3, h4, h5, h6, h7, h8⟩ := h
    exact ⟨r, by rw [hi, hblk]; exact h1, h2, h3, h4, h5, h6, h7, fun t v hv => by rw [V.abs_congr hρ v (hb t v hv)]; exact h8 t v hv⟩
  | arr m cols q t =>
    obtain ⟨cs, h1, h2, h3, h4⟩ := h
    refine ⟨cs, h1, h2, h3, ?_⟩
    cases m with
    | ro =>
      refine ⟨by rw [hi, hblk]; exact h4.1, fun j v hj => ?_⟩
      have := h4.2 j v hj
      rw [hi]
      simp only [World.cell?, hblk] at this ⊢
      exact this
    | own => exact ⟨by rw [hi, hblk]; exact h4.1, by rw [hi]; exact h4.2⟩
    | grow k =>
      obtain ⟨rest, g1, g2, g3⟩ := h4
      exact ⟨rest, by rw [hi, hblk]; exact g1, by rw [hi]; exact g2, by rw [hρ k hb]; exact g3⟩
  | glob g cs =>
    exact ⟨by rw [hi, hblk]; exact h.1, hi.trans h.2⟩
  | no => trivial
theorem RepE.congr {ρ ρ' : Rho} {w w' : World} {i n : Nat} {e : Ent} (hρ : ∀ j, j < n → ρ' j = ρ j) (hi : i < n) (hb : e.bd n) (hblk : w'.heap[(ρ i).1]? = w.heap[(ρ i).1]?) (hsz : w.heap.size ≤ w'.heap.size) (h : RepE ρ w i e) : RepE ρ' w' i e := RepE.congr2 hρ (hρ i hi) hb hblk hsz h
/-- The new block is put behind the store. -/
def Rho.push (ρ : Rho) (n : Nat) (b : Nat) : Rho := fun i => if i = n then (b, 0) else ρ i
theorem Rho.push_lt {ρ : Rho} {n b i : Nat} (h : i < n) : (ρ.push n b) i = ρ i := by simp [Rho.push]; omega
theorem Rho.push_at {ρ : Rho} {n b : Nat} : (ρ.push n b) n = (b, 0) := by simp [Rho.push]
theorem RepE.lt {ρ : Rho} {w : World} {i : Nat} {e : Ent} (h : RepE ρ w i e) (hl : e.live = true) : (ρ i).1 < w.heap.size := by
  cases e with
  | own cs t => exact (Array.getElem?_eq_some_iff.1 h.1).1
  | ro cs => obtain ⟨⟨a, t, x, h1⟩, _⟩ := h; exact (Array.getElem?_eq_some_iff.1 h1).1
  | map es c => exact (Array.getElem?_eq_some_iff.1 h).1
  | lp e m ps asg body pend => obtain ⟨r, h1, _⟩ := h; exact (Array.getElem?_eq_some_iff.1 h1).1
  | lst cs t k z => obtain ⟨rest, h1, _⟩ := h; exact (Array.getElem?_eq_some_iff.1 h1).1
  | arr m cols q t =>
    obtain ⟨cs, _, _, _, h4⟩ := h
    cases m with
    | ro => obtain ⟨⟨a, t, x, h1⟩, _⟩ := h4; exact (Array.getElem?_eq_some_iff.1 h1).1
    | own => exact (Array.getElem?_eq_some_iff.1 h4.1).1
    | grow k => obtain ⟨rest, h1, _⟩ := h4; exact (Array.getElem?_eq_some_iff.1 h1).1
  | glob g cs => obtain ⟨⟨t, x, h1⟩, _⟩ := h; exact (Array.getElem?_eq_some_iff.1 h1).1
  | no => simp [Ent.live] at hl
theorem Ent.own_live {e : Ent} (h : e.isOwn = true) : e.live = true := by cases e <;> simp_all [Ent.isOwn, Ent.live]
theorem Ent.bd_mono' {n m : Nat} (h : n ≤ m) : ∀ (e : Ent), e.bd n → e.bd m
  | .own cs t, hf => bdL_mono h _ hf
  | .ro cs, hf => bdL_mono h _ hf
  | .map es c, hf => fun x hx => ⟨V.bd_mono h _ (hf x hx).1, V.bd_mono h _ (hf x hx).2⟩
  | .lst cs t k z, hf => ⟨bdL_mono h _ hf.1, Nat.lt_of_lt_of_le hf.2 h⟩
  | .lp e m ps asg body pend, hf => fun t v hv => V.bd_mono h v (hf t v hv)
  | .arr m cols q t, hf => by
    cases m with
    | grow k => exact Nat.lt_of_lt_of_le hf h
    | _ => trivial
  | .glob _ _, _ => trivial
  | .no, _ => trivial
/-- A new block. -/
theorem Rep.alloc {ρ : Rho} {s : Sto} {w : World} (h : Rep ρ s w) (hs : sbd s) {e : Ent} {o : Obj} (hown : e.isOwn = true) (he : e.bd s.length)
    (ho : RepE (ρ.push s.length w.heap.size) (w.alloc o) s.length e) :
    Rep (ρ.push s.length w.heap.size) (s ++ [e]) (w.alloc o) ∧ Ext s ρ w (s ++ [e]) (ρ.push s.length w.heap.size) (w.alloc o) ∧ sbd (s ++ [e]) := by
  have hρ : ∀ j, j < s.length → (ρ.push s.length w.heap.size) j = ρ j := fun j hj => Rho.push_lt hj
  have hblk : ∀ b, b < w.heap.size → (w.alloc o).heap[b]? = w.heap[b]? := fun b hb => Go.RowKit.Below.heap_alloc _ _ _ hb
  have hsz : w.heap.size ≤ (w.alloc o).heap.size := by simp
  refine ⟨⟨?_, ?_⟩, ?_, ?_⟩
  · intro i f hf
    by_cases hi : i < s.length
    · rw [List.getElem?_append_left hi] at hf
      have hr := h.ent i f hf
      cases hlv : f.live with
      | true => exact RepE.congr hρ hi (hs i f hf) (hblk _ (hr.lt hlv)) hsz hr
      | false => cases f <;> simp_all [Ent.live, RepE]
    · rw [List.getElem?_append_right (by omega)] at hf
      have : i - s.length = 0 := by
        rcases Nat.eq_zero_or_pos (i - s.length) with h0 | h0
        · exact h0
        · rw [List.getElem?_eq_none (by simp; omega)] at hf; cases hf
      rw [this] at hf
      obtain rfl : e = f := by simpa using hf
      obtain rfl : i = s.length := by omega
      exact ho
  · intro i j f g hf hg hfo hgl hij
    have key : ∀ (k : Nat) (x : Ent), (s ++ [e])[k]? = some x → x.live = true → (k < s.length ∧ s[k]? = some x ∧ ((ρ.push s.length w.heap.size) k).1 < w.heap.size ∧ ((ρ.push s.length w.heap.size) k).1 = (ρ k).1) ∨ (k = s.length ∧ ((ρ.push s.length w.heap.size) k).1 = w.heap.size) := by
      intro k x hx hxl
      by_cases hk : k < s.length
      · rw [List.getElem?_append_left hk] at hx
        rw [hρ k hk]
        exact .inl ⟨hk, hx, (h.ent k x hx).lt hxl, rfl⟩
      · have hk2 : k = s.length := by
          have := (List.getElem?_eq_some_iff.1 hx).1
          simp at this
          omega
        subst hk2
        exact .inr ⟨rfl, by rw [Rho.push_at]⟩
    rcases key i f hf (Ent.own_live hfo) with ⟨a1, a2, a3, a4⟩ | ⟨a1, a2⟩ <;> rcases key j g hg hgl with ⟨b1, b2, b3, b4⟩ | ⟨b1, b2⟩
    · rw [a4, b4]; exact h.sep i j f g a2 b2 hfo hgl hij
    · omega
    · omega
    · omega
  · refine ⟨by simp, hρ, ?_, rfl, rfl, rfl, hsz, fun b hb _ => hblk b hb⟩
    intro i f hf hfo
    by_cases hi : i < s.length
    · rw [List.getElem?_append_left hi] at hf
      exact .inl ⟨i, f, hf, hfo, by rw [hρ i hi]⟩
    · have hk2 : i = s.length := by
        have := (List.getElem?_eq_some_iff.1 hf).1
        simp at this
        omega
      subst hk2
      exact .inr (by rw [Rho.push_at]; exact Nat.le_refl _)
  · have bdmono : ∀ (f : Ent), f.bd s.length → f.bd (s ++ [e]).length := by
      intro f hf
      have hle : s.length ≤ (s ++ [e]).length := by simp
      exact Ent.bd_mono' hle f hf
    intro i f hf
    by_cases hi : i < s.length
    · rw [List.getElem?_append_left hi] at hf
      exact bdmono f (hs i f hf)
    · have hk2 : i = s.length := by
        have := (List.getElem?_eq_some_iff.1 hf).1
        simp at this
        omega
      subst hk2
      simp at hf
      subst hf
      exact bdmono _ he
/-- A block of its own is changed. -/
theorem Rep.change {ρ : Rho} {s : Sto} {w w' : World} (h : Rep ρ s w) (hs : sbd s) {i : Nat} {e e' : Ent} (hi : s[i]? = some e) (hown : e.isOwn = true) (hown' : e'.isOwn = true) (he : e'.bd s.length)
    (ho : RepE ρ w' i e') (hsz : w'.heap.size = w.heap.size) (hos : w'.os = w.os) (htape : w'.tape = w.tape) (hout : w'.output = w.output) (hblk : ∀ b, b ≠ (ρ i).1 → w'.heap[b]? = w.heap[b]?) :
    Rep ρ (s.set i e') w' ∧ Ext s ρ w (s.set i e') ρ w' ∧ sbd (s.set i e') := by
  have hil : i < s.length := (List.getElem?_eq_some_iff.1 hi).1
  have old : ∀ (j : Nat) (f : Ent), (s.set i e')[j]? = some f → j ≠ i → s[j]? = some f := by
    intro j f hf hj
    rwa [List.getElem?_set_ne (by omega)] at hf
  have new : ∀ (f : Ent), (s.set i e')[i]? = some f → f = e' := by
    intro f hf
    rw [List.getElem?_set_self (by simpa using hil)] at hf
    exact (Option.some.inj hf).symm
  refine ⟨⟨?_, ?_⟩, ?_, ?_⟩
  · intro j f hf
    by_cases hj : j = i
    · subst hj; rw [new f hf]; exact ho
    · have hf' := old j f hf hj
      have hr := h.ent j f hf'
      cases hlv : f.live with
      | true =>
        have hne : (ρ j).1 ≠ (ρ i).1 := fun hh => h.sep i j e f hi hf' hown hlv (fun x => hj x.symm) hh.symm
        exact RepE.congr (n := s.length) (fun _ _ => rfl) ((List.getElem?_eq_some_iff.1 hf').1) (hs j f hf') (hblk _ hne) (by omega) hr
      | false => cases f <;> simp_all [Ent.live, RepE]
  · intro j k f g hf hg hfo hgl hjk
    have hj : ∃ f0, s[j]? = some f0 ∧ f0.isOwn = true := by
      by_cases hj : j = i
      · exact ⟨e, by rw [hj]; exact hi, hown⟩
      · exact ⟨f, old j f hf hj, hfo⟩
    have hk : ∃ g0, s[k]? = some g0 ∧ g0.live = true := by
      by_cases hk : k = i
      · exact ⟨e, by rw [hk]; exact hi, Ent.own_live hown⟩
      · exact ⟨g, old k g hg hk, hgl⟩
    obtain ⟨f0, a1, a2⟩ := hj
    obtain ⟨g0, b1, b2⟩ := hk
    exact h.sep j k f0 g0 a1 b1 a2 b2 hjk
  · refine ⟨by simp, fun _ _ => rfl, ?_, hos, htape, hout, by omega, ?_⟩
    · intro j f hf hfo
      by_cases hj : j = i
      · exact .inl ⟨i, e, hi, hown, by rw [hj]⟩
      · exact .inl ⟨j, f, old j f hf hj, hfo, rfl⟩
    · intro b hb hn
      exact hblk b (fun hh => hn i e hi hown hh.symm)
  · intro j f hf
    have hlen : (s.set i e').length = s.length := by simp
    rw [hlen]
    by_cases hj : j = i
    · subst hj; rw [new f hf]; exact he
    · exact hs j f (old j f hf hj)
end Go.Proofs.YtpahclogghdnpaaDoorRL
