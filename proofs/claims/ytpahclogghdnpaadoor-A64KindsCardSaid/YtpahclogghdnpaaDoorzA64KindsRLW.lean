/- RL: states told anew with fewer blocks, or others' numbers; loops that carry blocks; code taken piece by piece. -/
import Derived.Test.YtpahclogghdnpaaDoorzA64KindsRL15
namespace Go.Proofs.YtpahclogghdnpaaDoorRL
open Go
set_option linter.unusedVariables false
set_option linter.unusedSimpArgs false
variable {Δ : List Deferred}
mutual
def V.map? (f : Nat → Option Nat) : V → Option V
  | .raw v => some (.raw v)
  | .md k m l => some (.md k m l)
  | .ptr i o => match f i with
    | some j => some (.ptr j o)
    | none => none
  | .sl i o n c => match f i with
    | some j => some (.sl j o n c)
    | none => none
  | .mp i => match f i with
    | some j => some (.mp j)
    | none => none
  | .yld i => match f i with
    | some j => some (.yld j)
    | none => none
  | .lst i k o e n => match f i, f k with
    | some j, some q => some (.lst j q o e n)
    | _, _ => none
  | .el i z k o => match f i with
    | some j => some (.el j z k o)
    | none => none
  | .sle i z k n c => match f i with
    | some j => some (.sle j z k n c)
    | none => none
  | .lse i k z e n => match f i, f k with
    | some j, some q => some (.lse j q z e n)
    | _, _ => none
  | .lend i k o e l z => match f i, f k with
    | some j, some q => some (.lend j q o e l z)
    | _, _ => none
  | .fn g a b => match mapL? f a, mapL? f b with
    | some a, some b => some (.fn g a b)
    | _, _ => none
  | .ifc t v => match v.map? f with
    | some v => some (.ifc t v)
    | none => none
  | .agg cs => match mapL? f cs with
    | some cs => some (.agg cs)
    | none => none
  | .tup vs => match mapL? f vs with
    | some vs => some (.tup vs)
    | none => none
def mapL? (f : Nat → Option Nat) : List V → Option (List V)
  | [] => some []
  | v :: vs => match v.map? f, mapL? f vs with
    | some v, some vs => some (v :: vs)
    | _, _ => none
end
mutual
theorem V.map_ok {f : Nat → Option Nat} {π : Nat → Nat} {n : Nat} (hf : ∀ i j, f i = some j → π j = i ∧ j < n) : ∀ (v v' : V), v.map? f = some v' → v'.ren π = v ∧ v'.bd n
  | .raw v, v', h => by simp only [V.map?, Option.some.injEq] at h; subst h; exact ⟨by simp [V.ren], trivial⟩
  | .md k m l, v', h => by simp only [V.map?, Option.some.injEq] at h; subst h; exact ⟨by simp [V.ren], trivial⟩
  | .ptr i o, v', h => by
    simp only [V.map?] at h; split at h
    · rename_i j hj; cases h; obtain ⟨a, b⟩ := hf _ _ hj; exact ⟨by simp [V.ren, a], b⟩
    · cases h
  | .sl i o _ c, v', h => by
    simp only [V.map?] at h; split at h
    · rename_i j hj; cases h; obtain ⟨a, b⟩ := hf _ _ hj; exact ⟨by simp [V.ren, a], b⟩
    · cases h
  | .mp i, v', h => by
    simp only [V.map?] at h; split at h
    · rename_i j hj; cases h; obtain ⟨a, b⟩ := hf _ _ hj; exact ⟨by simp [V.ren, a], b⟩
    · cases h
  | .yld i, v', h => by
    simp only [V.map?] at h; split at h
    · rename_i j hj; cases h; obtain ⟨a, b⟩ := hf _ _ hj; exact ⟨by simp [V.ren, a], b⟩
    · cases h
  | .el i z k o, v', h => by
    simp only [V.map?] at h; split at h
    · rename_i j hj; cases h; obtain ⟨a, b⟩ := hf _ _ hj; exact ⟨by simp [V.ren, a], b⟩
    · cases h
  | .sle i z k _ c, v', h => by
    simp only [V.map?] at h; split at h
    · rename_i j hj; cases h; obtain ⟨a, b⟩ := hf _ _ hj; exact ⟨by simp [V.ren, a], b⟩
    · cases h
  | .lst i k o e _, v', h => by
    simp only [V.map?] at h; split at h
    · rename_i j q hj hq; cases h; obtain ⟨a, b⟩ := hf _ _ hj; obtain ⟨c, d⟩ := hf _ _ hq; exact ⟨by simp [V.ren, a, c], b, d⟩
    · cases h
  | .lse i k z e _, v', h => by
    simp only [V.map?] at h; split at h
    · rename_i j q hj hq; cases h; obtain ⟨a, b⟩ := hf _ _ hj; obtain ⟨c, d⟩ := hf _ _ hq; exact ⟨by simp [V.ren, a, c], b, d⟩
    · cases h
  | .lend i k o e l z, v', h => by
    simp only [V.map?] at h; split at h
    · rename_i j q hj hq; cases h; obtain ⟨a, b⟩ := hf _ _ hj; obtain ⟨c, d⟩ := hf _ _ hq; exact ⟨by simp [V.ren, a, c], b, d⟩
    · cases h
  | .fn g x y, v', h => by
    simp only [V.map?] at h; split at h
    · rename_i a b ha hb; cases h; obtain ⟨a1, a2⟩ := mapL_ok hf x _ ha; obtain ⟨b1, b2⟩ := mapL_ok hf y _ hb; exact ⟨by simp [V.ren, a1, b1], a2, b2⟩
    · cases h
  | .ifc t v, v', h => by
    simp only [V.map?] at h; split at h
    · rename_i a ha; cases h; obtain ⟨a1, a2⟩ := V.map_ok hf v _ ha; exact ⟨by simp [V.ren, a1], a2⟩
    · cases h
  | .agg cs, v', h => by
    simp only [V.map?] at h; split at h
    · rename_i a ha; cases h; obtain ⟨a1, a2⟩ := mapL_ok hf cs _ ha; exact ⟨by simp [V.ren, a1], a2⟩
    · cases h
  | .tup vs, v', h => by
    simp only [V.map?] at h; split at h
    · rename_i a ha; cases h; obtain ⟨a1, a2⟩ := mapL_ok hf vs _ ha; exact ⟨by simp [V.ren, a1], a2⟩
    · cases h
theorem mapL_ok {f : Nat → Option Nat} {π : Nat → Nat} {n : Nat} (hf : ∀ i j, f i = some j → π j = i ∧ j < n) : ∀ (l l' : List V), mapL? f l = some l' → renL π l' = l ∧ bdL n l'
  | [], l', h => by simp only [mapL?, Option.some.injEq] at h; subst h; exact ⟨by simp [renL], trivial⟩
  | v :: vs, l', h => by
    simp only [mapL?] at h; split at h
    · rename_i a b ha hb; cases h; obtain ⟨a1, a2⟩ := V.map_ok hf v _ ha; obtain ⟨b1, b2⟩ := mapL_ok hf vs _ hb; exact ⟨by simp [renL, a1, b1], a2, b2⟩
    · cases h
end
def mapEs? (f : Nat → Option Nat) : List (V × V × Nat) → Option (List (V × V × Nat))
  | [] => some []
  | e :: es => match e.1.map? f, e.2.1.map? f, mapEs? f es with
    | some a, some b, some es => some ((a, b, e.2.2) :: es)
    | _, _, _ => none
def mapE? (f : Nat → Option Nat) : List (Nat × V) → Option (List (Nat × V))
  | [] => some []
  | p :: l => match p.2.map? f, mapE? f l with
    | some v, some l => some ((p.1, v) :: l)
    | _, _ => none
def Ent.map? (f : Nat → Option Nat) : Ent → Option Ent
  | .own cs t => match mapL? f cs with
    | some cs => some (.own cs t)
    | none => none
  | .ro cs => match mapL? f cs with
    | some cs => some (.ro cs)
    | none => none
  | .map es c => match mapEs? f es with
    | some es => some (.map es c)
    | none => none
  | .lst cs t k z => match mapL? f cs, f k with
    | some cs, some k => some (.lst cs t k z)
    | _, _ => none
  | .lp e m ps asg body pend => match mapE? f e with
    | some e => some (.lp e m ps asg body pend)
    | none => none
  | .arr m cols n t => match m with
    | .ro => some (.arr .ro cols n t)
    | .own => some (.arr .own cols n t)
    | .grow k => match f k with
      | some k => some (.arr (.grow k) cols n t)
      | none => none
  | .glob g cs => some (.glob g cs)
  | .no => some .no
theorem mapE_ok {f : Nat → Option Nat} {π : Nat → Nat} {n : Nat} (hf : ∀ i j, f i = some j → π j = i ∧ j < n) : ∀ (e e' : List (Nat × V)), mapE? f e = some e' → renE π e' = e ∧ ∀ t v, find e' t = some v → v.bd n := by
  intro e
  induction e with
  | nil => intro e' h; simp only [mapE?, Option.some.injEq] at h; subst h; exact ⟨rfl, fun t v h => by cases h⟩
  | cons p l ih =>
    intro e' h
    simp only [mapE?] at h
    split at h
    · rename_i v l2 hv hl
      cases h
      obtain ⟨i1, i2⟩ := ih _ hl
      obtain ⟨a1, a2⟩ := V.map_ok hf _ _ hv
      refine ⟨by simp only [renE, a1, i1], fun t u hu => ?_⟩
      simp only [find] at hu
      split at hu
      · cases hu; exact a2
      · exact i2 t u hu
    · cases h
theorem Ent.map_ok {f : Nat → Option Nat} {π : Nat → Nat} {n : Nat} (hf : ∀ i j, f i = some j → π j = i ∧ j < n) {e e' : Ent} (h : e.map? f = some e') : e'.ren π = e ∧ e'.bd n := by
  cases e with
  | own cs t =>
    simp only [Ent.map?] at h; split at h
    · rename_i a ha; cases h; obtain ⟨a1, a2⟩ := mapL_ok hf cs _ ha; exact ⟨by simp [Ent.ren, a1], a2⟩
    · cases h
  | ro cs =>
    simp only [Ent.map?] at h; split at h
    · rename_i a ha; cases h; obtain ⟨a1, a2⟩ := mapL_ok hf cs _ ha; exact ⟨by simp [Ent.ren, a1], a2⟩
    · cases h
  | map es c =>
    simp only [Ent.map?] at h; split at h
    · rename_i a ha
      cases h
      have key : ∀ (es es' : List (V × V × Nat)), mapEs? f es = some es' → es'.map (fun e => (e.1.ren π, e.2.1.ren π, e.2.2)) = es ∧ ∀ e ∈ es', e.1.bd n ∧ e.2.1.bd n := by
        intro es
        induction es with
        | nil => intro es' h; simp only [mapEs?, Option.some.injEq] at h; subst h; exact ⟨rfl, fun e he => by cases he⟩
        | cons e es ih =>
          intro es' h
          simp only [mapEs?] at h
          split at h
          · rename_i a b es2 ha hb hes
            cases h
            obtain ⟨i1, i2⟩ := ih _ hes
            obtain ⟨a1, a2⟩ := V.map_ok hf _ _ ha
            obtain ⟨b1, b2⟩ := V.map_ok hf _ _ hb
            refine ⟨by simp [a1, b1, i1], fun x hx => ?_⟩
            rcases List.mem_cons.1 hx with rfl | hx
            · exact ⟨a2, b2⟩
            · exact i2 x hx
          · cases h
      obtain ⟨k1, k2⟩ := key es _ ha
      exact ⟨by simp [Ent.ren, k1], k2⟩
    · cases h
  | lst cs t k z =>
    simp only [Ent.map?] at h; split at h
    · rename_i a q ha hq; cases h; obtain ⟨a1, a2⟩ := mapL_ok hf cs _ ha; obtain ⟨c, d⟩ := hf _ _ hq; exact ⟨by simp [Ent.ren, a1, c], a2, d⟩
    · cases h
  | lp e m ps asg body pend =>
    simp only [Ent.map?] at h; split at h
    · rename_i a ha; cases h; obtain ⟨a1, a2⟩ := mapE_ok hf e _ ha; exact ⟨by simp only [Ent.ren, a1], a2⟩
    · cases h
  | arr m cols q t =>
    cases m with
    | ro => cases h; exact ⟨rfl, trivial⟩
    | own => cases h; exact ⟨rfl, trivial⟩
    | grow k =>
      simp only [Ent.map?] at h; split at h
      · rename_i j hj; cases h; obtain ⟨a, b⟩ := hf _ _ hj; exact ⟨by simp [Ent.ren, a], b⟩
      · cases h
  | glob => cases h; exact ⟨rfl, trivial⟩
  | no => cases h; exact ⟨rfl, trivial⟩
def idxN (j : Nat) : List Nat → Nat → Option Nat
  | [], _ => none
  | x :: xs, q => match Nat.beq x j with
    | true => some q
    | false => idxN j xs (q + 1)
theorem idxN_some {j : Nat} : ∀ {l : List Nat} {q0 q : Nat}, idxN j l q0 = some q → q0 ≤ q ∧ l[q - q0]? = some j := by
  intro l
  induction l with
  | nil => intro q0 q h; cases h
  | cons x xs ih =>
    intro q0 q h
    simp only [idxN] at h
    split at h
    · rename_i hb
      cases h
      exact ⟨Nat.le_refl _, by simp [Nat.eq_of_beq_eq_true hb]⟩
    · obtain ⟨h1, h2⟩ := ih h
      refine ⟨by omega, ?_⟩
      rw [show q - q0 = (q - (q0 + 1)) + 1 by omega, List.getElem?_cons_succ]
      exact h2
/-- Where a block's number goes: those of l behind the first n. -/
def toN (n : Nat) (l : List Nat) (j : Nat) : Option Nat :=
  match idxN j l n with
  | some q => some q
  | none => match Nat.blt j n with
    | true => some j
    | false => none
def fromN (n : Nat) (l : List Nat) (i : Nat) : Nat := if i < n then i else l.getD (i - n) i
theorem toN_ok {n : Nat} {l : List Nat} {i j : Nat} (h : toN n l i = some j) : fromN n l j = i ∧ j < n + l.length := by
  unfold toN at h
  split at h
  · rename_i q hq
    cases h
    obtain ⟨h1, h2⟩ := idxN_some hq
    have hlt := (List.getElem?_eq_some_iff.1 h2).1
    refine ⟨?_, by omega⟩
    unfold fromN
    rw [if_neg (by omega), List.getD_eq_getElem?_getD, h2]; rfl
  · split at h
    · rename_i hb
      cases h
      rw [Nat.blt_eq] at hb
      exact ⟨by unfold fromN; rw [if_pos hb], by omega⟩
    · cases h
def selB (f : Nat → Option Nat) (l : List Nat) : Nat → Nat → Sto → Sto
  | 0, _, _ => []
  | m + 1, i, s => match s with
    | [] => .no :: selB f l m (i + 1) []
    | e :: s => (match hasN l i with
      | true => .no
      | false => match e.map? f with
        | some e => e
        | none => .no) :: selB f l m (i + 1) s
def selM (f : Nat → Option Nat) (s : Sto) : List Nat → Sto
  | [] => []
  | j :: l => (match s[j]? with
    | some e => match e.map? f with
      | some e => e
      | none => .no
    | none => .no) :: selM f s l
def selE (f : Nat → Option Nat) (e : List (Nat × V)) : List Nat → List (Nat × V)
  | [] => []
  | t :: ts => match find e t with
    | some v => match v.map? f with
      | some v => (t, v) :: selE f e ts
      | none => selE f e ts
    | none => selE f e ts
def appB : Sto → Sto → Sto
  | [], t => t
  | e :: s, t => e :: appB s t
theorem appB_eq : ∀ (s t : Sto), appB s t = s ++ t
  | [], t => rfl
  | e :: s, t => by simp [appB, appB_eq s t]
def selS (n : Nat) (l : List Nat) (s : Sto) : Sto := appB (selB (toN n l) l n 0 s) (selM (toN n l) s l)
/-- Of a state the first n blocks, but those of l, which go behind; and these temporaries. -/
def selSt (n : Nat) (l live : List Nat) (st : St) : St := ⟨st.n, selE (toN n l) st.t live, selS n l st.s⟩
theorem selB_length (f : Nat → Option Nat) (l : List Nat) : ∀ (m i : Nat) (s : Sto), (selB f l m i s).length = m
  | 0, _, _ => rfl
  | m + 1, i, [] => by simp [selB, selB_length f l m]
  | m + 1, i, e :: s => by simp [selB, selB_length f l m]
theorem selM_length (f : Nat → Option Nat) (s : Sto) : ∀ (l : List Nat), (selM f s l).length = l.length
  | [] => rfl
  | j :: l => by simp [selM, selM_length f s l]
theorem selB_at {f : Nat → Option Nat} {l : List Nat} : ∀ {m i : Nat} {s : Sto} {k : Nat} {e : Ent}, (selB f l m i s)[k]? = some e → e = .no ∨ (hasN l (i + k) = false ∧ ∃ e0, s[k]? = some e0 ∧ e0.map? f = some e) := by
  intro m
  induction m with
  | zero => intro i s k e h; simp [selB] at h
  | succ m ih =>
    intro i s k e h
    cases s with
    | nil =>
      simp only [selB] at h
      cases k with
      | zero => simp at h; exact .inl h.symm
      | succ k =>
        rcases ih (by simpa using h) with h | ⟨_, e0, h1, _⟩
        · exact .inl h
        · simp at h1
    | cons e1 s =>
      simp only [selB] at h
      cases k with
      | zero =>
        simp only [List.getElem?_cons_zero, Option.some.injEq] at h
        split at h
        · exact .inl h.symm
        · rename_i hn
          split at h
          · rename_i e2 he; subst h; exact .inr ⟨hn, e1, rfl, he⟩
          · exact .inl h.symm
      | succ k =>
        rcases ih (by simpa using h) with h | ⟨h0, e0, h1, h2⟩
        · exact .inl h
        · exact .inr ⟨by rw [show i + (k + 1) = i + 1 + k by omega]; exact h0, e0, by simpa using h1, h2⟩
theorem selM_at {f : Nat → Option Nat} {s : Sto} : ∀ {l : List Nat} {k : Nat} {e : Ent}, (selM f s l)[k]? = some e → e = .no ∨ ∃ j e0, l[k]? = some j ∧ s[j]? = some e0 ∧ e0.map? f = some e := by
  intro l
  induction l with
  | nil => intro k e h; simp [selM] at h
  | cons j l ih =>
    intro k e h
    simp only [selM] at h
    cases k with
    | zero =>
      simp only [List.getElem?_cons_zero, Option.some.injEq] at h
      split at h
      · rename_i e0 h0
        split at h
        · rename_i e1 h1; subst h; exact .inr ⟨j, e0, rfl, h0, h1⟩
        · exact .inl h.symm
      · exact .inl h.symm
    | succ k => simpa using ih (by simpa using h)
theorem selS_length (n : Nat) (l : List Nat) (s : Sto) : (selS n l s).length = n + l.length := by
  simp [selS, appB_eq, selB_length, selM_length]
theorem selS_at {n : Nat} {l : List Nat} {s : Sto} {i : Nat} {e : Ent} (h : (selS n l s)[i]? = some e) : e = .no ∨ ((i < n → hasN l i = false) ∧ ∃ e0, s[fromN n l i]? = some e0 ∧ e0.map? (toN n l) = some e) := by
  unfold selS at h
  rw [appB_eq] at h
  by_cases hi : i < n
  · rw [List.getElem?_append_left (by rw [selB_length]; exact hi)] at h
    rcases selB_at h with h | ⟨h0, e0, h1, h2⟩
    · exact .inl h
    · rw [Nat.zero_add] at h0
      exact .inr ⟨fun _ => h0, e0, by unfold fromN; rw [if_pos hi]; exact h1, h2⟩
  · rw [List.getElem?_append_right (by rw [selB_length]; omega), selB_length] at h
    rcases selM_at h with h | ⟨j, e0, h1, h2, h3⟩
    · exact .inl h
    · exact .inr ⟨fun h => absurd h hi, e0, by unfold fromN; rw [if_neg hi, List.getD_eq_getElem?_getD, h1]; exact h2, h3⟩
theorem selE_find {f : Nat → Option Nat} {e : List (Nat × V)} : ∀ {l : List Nat} {t : Nat} {v : V}, find (selE f e l) t = some v → ∃ v0, find e t = some v0 ∧ v0.map? f = some v := by
  intro l
  induction l with
  | nil => intro t v h; cases h
  | cons x l ih =>
    intro t v h
    simp only [selE] at h
    split at h
    · rename_i v0 h0
      split at h
      · rename_i v1 h1
        simp only [find] at h
        split at h
        · rename_i hb
          have := Nat.eq_of_beq_eq_true hb
          subst this
          cases h
          exact ⟨v0, h0, h1⟩
        · exact ih h
      · exact ih h
    · exact ih h
def nodupN : List Nat → Bool
  | [] => true
  | x :: xs => !(hasN xs x) && nodupN xs
theorem hasN_mem {l : List Nat} {q : Nat} : hasN l q = true ↔ q ∈ l := by
  simp only [hasN, List.any_eq_true]
  constructor
  · rintro ⟨x, h1, h2⟩; rw [← Nat.eq_of_beq_eq_true h2]; exact h1
  · intro h; exact ⟨q, h, Nat.beq_refl q⟩
theorem nodupN_ne {l : List Nat} (h : nodupN l = true) : ∀ {i j x : Nat}, l[i]? = some x → l[j]? = some x → i = j := by
  induction l with
  | nil => intro i j x hi; simp at hi
  | cons y l ih =>
    simp only [nodupN, Bool.and_eq_true, Bool.not_eq_true'] at h
    intro i j x hi hj
    have hy : ∀ {k : Nat}, l[k]? = some y → False := fun hk => by
      have := hasN_mem.2 (List.mem_of_getElem? hk)
      rw [h.1] at this; cases this
    cases i with
    | zero =>
      simp at hi; subst hi
      cases j with
      | zero => rfl
      | succ j => exact (hy (by simpa using hj)).elim
    | succ i =>
      cases j with
      | zero => simp at hj; subst hj; exact (hy (by simpa using hi)).elim
      | succ j => exact congrArg (· + 1) (ih h.2 (i := i) (j := j) (x := x) (by simpa using hi) (by simpa using hj))
theorem selSt_weak {n : Nat} {l live : List Nat} (hl : nodupN l = true) (st : St) : Weak n st (selSt n l live st) (fromN n l) where
  num := rfl
  le := by show n ≤ (selS n l st.s).length; rw [selS_length]; omega
  id i hi := by unfold fromN; rw [if_pos hi]
  env t v hv := by
    obtain ⟨v0, h1, h2⟩ := selE_find hv
    obtain ⟨h3, h4⟩ := V.map_ok (fun i j h => toN_ok h) _ _ h2
    rw [h3]
    refine ⟨h1, ?_⟩
    show v.bd (selS n l st.s).length
    rw [selS_length]; exact h4
  ent i e hi := by
    rcases selS_at hi with h | ⟨_, e0, h1, h2⟩
    · exact .inl h
    · obtain ⟨h3, h4⟩ := Ent.map_ok (fun i j h => toN_ok h) h2
      refine .inr ⟨by rw [h3]; exact h1, ?_⟩
      show e.bd (selS n l st.s).length
      rw [selS_length]; exact h4
  inj i j e f hi hj ho hlv hij := by
    rcases selS_at hi with rfl | ⟨hi0, e0, h1, _⟩
    · cases ho
    rcases selS_at hj with rfl | ⟨hj0, f0, k1, _⟩
    · cases hlv
    have hil := (List.getElem?_eq_some_iff.1 hi).1
    have hjl := (List.getElem?_eq_some_iff.1 hj).1
    change i < (selS n l st.s).length at hil
    change j < (selS n l st.s).length at hjl
    rw [selS_length] at hil hjl
    have mem : ∀ q, n ≤ q → q < n + l.length → ∃ x, l[q - n]? = some x ∧ fromN n l q = x := fun q h1 h2 => by
      have hq : q - n < l.length := by omega
      refine ⟨l[q - n], List.getElem?_eq_getElem hq, ?_⟩
      unfold fromN
      rw [if_neg (by omega), List.getD_eq_getElem?_getD, List.getElem?_eq_getElem hq]; rfl
    by_cases hin : i < n
    · by_cases hjn : j < n
      · unfold fromN; rw [if_pos hin, if_pos hjn]; exact hij
      · obtain ⟨x, hx, hx2⟩ := mem j (by omega) hjl
        rw [hx2]
        unfold fromN; rw [if_pos hin]
        intro he
        subst he
        have := hasN_mem.2 (List.mem_of_getElem? hx)
        rw [hi0 hin] at this; cases this
    · obtain ⟨x, hx, hx2⟩ := mem i (by omega) hil
      by_cases hjn : j < n
      · rw [hx2]
        unfold fromN; rw [if_pos hjn]
        intro he
        subst he
        have := hasN_mem.2 (List.mem_of_getElem? hx)
        rw [hj0 hjn] at this; cases this
      · obtain ⟨y, hy, hy2⟩ := mem j (by omega) hjl
        rw [hx2, hy2]
        intro he
        subst he
        have := nodupN_ne hl hx hy
        omega
def catN : List Nat → List Nat → List Nat
  | [], r => r
  | x :: xs, r => x :: catN xs r
mutual
/-- The blocks that a value names. -/
def refsV : V → List Nat
  | .raw _ => []
  | .md _ _ _ => []
  | .ptr i _ => [i]
  | .sl i _ _ _ => [i]
  | .mp i => [i]
  | .yld i => [i]
  | .lst i k _ _ _ => [k, i]
  | .el i _ _ _ => [i]
  | .sle i _ _ _ _ => [i]
  | .lse i k _ _ _ => [k, i]
  | .lend i k _ _ _ _ => [k, i]
  | .fn _ a b => refsL a (refsL b [])
  | .ifc _ v => refsV v
  | .agg cs => refsL cs []
  | .tup vs => refsL vs []
def refsL : List V → List Nat → List Nat
  | [], r => r
  | v :: vs, r => catN (refsV v) (refsL vs r)
end
def refsM : List (V × V × Nat) → List Nat
  | [] => []
  | e :: es => catN (refsV e.1) (catN (refsV e.2.1) (refsM es))
def refsT : List (Nat × V) → List Nat
  | [] => []
  | p :: l => catN (refsV p.2) (refsT l)
def refsE : Ent → List Nat
  | .own cs _ | .ro cs => refsL cs []
  | .lst cs _ k _ => k :: refsL cs []
  | .map es _ => refsM es
  | .lp e _ _ _ _ _ => refsT e
  | .arr m _ _ _ => match m with
    | .grow k => [k]
    | _ => []
  | .glob _ _ => []
  | .no => []
def reachG (n : Nat) (s : Sto) : Nat → List Nat → List Nat → List Nat
  | 0, _, seen => seen
  | f + 1, w, seen => match w with
    | [] => seen
    | i :: w => match Nat.blt i n || hasN seen i with
      | true => reachG n s f w seen
      | false => match s[i]? with
        | some e => reachG n s f (catN (refsE e) w) (catN seen [i])
        | none => reachG n s f w (catN seen [i])
def rootsE (e : List (Nat × V)) : List Nat → List Nat
  | [] => []
  | t :: ts => match find e t with
    | some v => catN (refsV v) (rootsE e ts)
    | none => rootsE e ts
def rootsB : Nat → Sto → List Nat
  | 0, _ => []
  | _, [] => []
  | m + 1, e :: s => catN (refsE e) (rootsB m s)
/-- Behind the first n blocks, those that are reached. -/
def reachN (n : Nat) (live : List Nat) (st : St) : List Nat := reachG n st.s 1000 (catN (rootsE st.t live) (rootsB n st.s)) []
def ckN (l : List Nat) : List Nat := match nodupN l with
  | true => l
  | false => []
/-- Of a state what these temporaries reach. -/
def gcSt (n : Nat) (live : List Nat) (st : St) : St := selSt n (ckN (reachN n live st)) live st
theorem ckN_ok (l : List Nat) : nodupN (ckN l) = true := by
  unfold ckN
  split
  · assumption
  · rfl
theorem gcSt_weak (n : Nat) (live : List Nat) (st : St) : ∃ π, Weak n st (gcSt n live st) π := ⟨_, selSt_weak (ckN_ok _) st⟩
theorem CodeOk.mono {P : Program} {c : Code} {st : St} {K K' : Ex → St → Prop} (h : CodeOk P c st K) (hk : ∀ e s, K e s → K' e s) : CodeOk P c st K' := by
  refine ⟨fun r B Δ ρ a w hs hf => wpIn_mono (h.run r B Δ ρ a w hs hf) ?_⟩
  rintro e a' w' ⟨x, st', ρ', Δ', h1, h2, h3⟩
  exact ⟨x, st', ρ', Δ', h1, hk _ _ h2, h3⟩
def Ex.map? (f : Nat → Option Nat) : Ex → Option Ex
  | .panic v => match v.map? f with
    | some v => some (.panic v)
    | none => none
  | e => some e
def Res.map? (f : Nat → Option Nat) : Res → Option Res
  | .ret v => match v.map? f with
    | some v => some (.ret v)
    | none => none
  | .pan v => match v.map? f with
    | some v => some (.pan v)
    | none => none
/-- Code, piece by piece. -/
def lft : Code → Code
  | .seq a _ | .cond _ a _ => a
  | .block _ c | .loop c | .scope c => c
  | c => c
def rgt : Code → Code
  | .seq _ b | .cond _ _ b => b
  | c => c
def kd : Code → Nat
  | .seq _ _ => 1
  | .block _ _ => 2
  | .loop _ => 3
  | .scope _ => 4
  | .cond _ _ _ => 5
  | .region _ _ _ => 6
  | .rangeFunc _ _ _ _ => 7
  | .skip => 8
  | .ret => 9
  | .exit _ => 10
  | _ => 0
def bid : Code → Nat
  | .block i _ => i
  | _ => 0
theorem CodeOk.seq {P : Program} {c : Code} {st : St} {K : Ex → St → Prop} (hc : Nat.beq (kd c) 1 = true) (h : CodeOk P (lft c) st fun e st' => match e with | .normal => CodeOk P (rgt c) st' K | e => K e st') : CodeOk P c st K := by
  cases c <;> simp [kd] at hc
  rename_i a b
  refine ⟨fun r B Δ ρ a w h' hf => wpIn_seq (wpIn_mono (h.run r B Δ ρ a w h' hf) ?_)⟩
  rintro e a' w' ⟨x', st', ρ', Δ', h1, h2, h3, h4, h5⟩
  cases x' <;> cases e <;> simp only [Ex.rel] at h1 <;> try exact h1.elim
  · exact wpIn_mono (CodeOk.run h2 r B Δ' ρ' a' w' h3 h5) fun e a w hl => lift_mono h4 hl
  all_goals exact ⟨_, st', ρ', Δ', by exact h1, h2, h3, h4, h5⟩
theorem CodeOk.blk {P : Program} {c : Code} {st : St} {K : Ex → St → Prop} (hc : Nat.beq (kd c) 2 = true) (h : CodeOk P (lft c) st fun e st' => match e with | .exit i => (match Nat.beq i (bid c) with | true => K .normal st' | false => K (.exit i) st') | e => K e st') : CodeOk P c st K := by
  cases c <;> simp [kd] at hc
  rename_i id b
  refine ⟨fun r B Δ ρ a w h' hf => wpIn_block (wpIn_mono (h.run r B Δ ρ a w h' hf) ?_)⟩
  rintro e a' w' ⟨x', st', ρ', Δ', h1, h2, h3, h4, h5⟩
  cases x' <;> cases e <;> simp only [Ex.rel] at h1 <;> try exact h1.elim
  · exact ⟨.normal, st', ρ', Δ', trivial, h2, h3, h4, h5⟩
  · rename_i i j
    subst h1
    simp only [bid] at h2
    split at h2
    · rename_i hb
      have := Nat.eq_of_beq_eq_true hb
      subst this
      simp only [Exit.inBlock, if_true]
      exact ⟨.normal, st', ρ', Δ', trivial, h2, h3, h4, h5⟩
    · rename_i hb
      simp only [Exit.inBlock]
      rw [if_neg (fun e => by subst e; simp at hb)]
      exact ⟨.exit i, st', ρ', Δ', rfl, h2, h3, h4, h5⟩
  · exact ⟨_, st', ρ', Δ', by exact h1, h2, h3, h4, h5⟩
  · exact ⟨_, st', ρ', Δ', by exact h1, h2, h3, h4, h5⟩
  · exact ⟨_, st', ρ', Δ', by exact h1, h2, h3, h4, h5⟩
/-- Code computed, with the bodies of what it calls; what it comes to is told to K. -/
def evG (P : Program) (D : Eh) (n : Nat) (c : Code) (st : St) (K : Ex → St → Prop) : Prop := Ev False P (gClo False P D n).1 (gClo False P D n).2 c st K
theorem evG_ok {P : Program} {D : Eh} (hD : EOk P D) (hn : namesOk P = true) (hm : P.follows .mixedOrders = true) {n : Nat} {c : Code} {st : St} {K : Ex → St → Prop} (h : evG P D n c st K) : CodeOk P c st K := by
  have hq := gClo_sound hD hn hm n (T := fun p : Prop => p) (no := False) (fun h => h)
  exact Ev.sound (T := fun p : Prop => p) (fun h => h) (fun f args s K h => hq.1 f args s K h) (fun c st K h => Lu.sound c st _ (hq.2 c st K h)) c st K h
def callG (P : Program) (D : Eh) (n : Nat) (f : FuncId) (args : List V) (s : Sto) (K : Res → Sto → Prop) : Prop := match Nat.blt f P.funcs.size with
  | true => (gClo False P D n).1 f args s K
  | false => False
theorem callG_ok {P : Program} {D : Eh} (hD : EOk P D) (hn : namesOk P = true) (hm : P.follows .mixedOrders = true) {n : Nat} {f : FuncId} {args : List V} {s : Sto} {K : Res → Sto → Prop} (h : callG P D n f args s K) : CallOk P f args s K := by
  unfold callG at h
  split at h
  · rename_i hlt
    exact ((gClo_sound hD hn hm n (T := fun p : Prop => p) (no := False) (fun h => h)).1 f args s K h).call (by simpa using hlt)
  · exact h.elim
def codeOf (P : Program) (f : FuncId) : Code := match P.funcs[f]? with
  | some fn => match fn.body with
    | some c => c
    | none => .skip
  | none => .skip
def funcOf (P : Program) (f : FuncId) : Func := P.funcs.getD f default
def funOk (P : Program) (f : FuncId) (n : Nat) : Bool := match P.funcs[f]? with
  | some fn => match fn.body with
    | some _ => Nat.ble n fn.ntmps
    | none => false
  | none => false
/-- A function entered. -/
theorem CallOk.fn {P : Program} (hn : namesOk P = true) {f : FuncId} {args : List V} {s : Sto} {K : Res → Sto → Prop} (hf : funOk P f args.length = true) (h : CodeOk P (codeOf P f) ⟨(funcOf P f).ntmps, zipArgs 0 args, s⟩ (bodyK False P (funcOf P f) K)) : CallOk P f args s K := by
  unfold funOk at hf
  split at hf
  · rename_i fn hfn
    split at hf
    · rename_i c hc
      have e1 : codeOf P f = c := by simp [codeOf, hfn, hc]
      have e2 : funcOf P f = fn := by
        have := (Array.getElem?_eq_some_iff.1 hfn)
        simp [funcOf, Array.getD, this.1, this.2]
      rw [e1, e2] at h
      exact CallOk.of_code (T := fun p : Prop => p) (fun h => h) hfn (names_at hn hfn) hc hf h
    · cases hf
  · cases hf
end Go.Proofs.YtpahclogghdnpaaDoorRL
