/- Parts of the proof, one behind the other. -/
import Derived.Test.YtpahclogghdnpaaDoorzA64KinIPlainC
section
/- a64.plain of at most three registers, at a small store. -/
set_option linter.unusedVariables false
set_option linter.unusedSimpArgs false
namespace Go.Proofs.YtpahclogghdnpaaDoor.isa
open Go Go.Proofs Go.Proofs.YtpahclogghdnpaaDoorRL
def lit3 {α : Type} (n : Nat) (f : Nat → α) (d : α) : α := match n with
  | 1 => f 1
  | 2 => f 2
  | 3 => f 3
  | _ => d
theorem lit3_some {α : Type} {n : Nat} {f : Nat → α} {a : α} (h : lit3 n (fun n => some (f n)) none = some a) : 0 < n ∧ n < 4 ∧ f n = a := by
  unfold lit3 at h
  split at h
  · cases h; exact ⟨by decide, by decide, rfl⟩
  · cases h; exact ⟨by decide, by decide, rfl⟩
  · cases h; exact ⟨by decide, by decide, rfl⟩
  · cases h
def atAR (G : Nat → (Nat → Int) → TypeId → Ans) : List V → Sto → Option Ans
  | .lse 1 0 1 0 n :: _, [.no, .arr (.grow 0) [.int .i64 g] m t] => match Nat.beq n m with
    | true => lit3 n (fun n => some (G n g t)) none
    | false => none
  | _, _ => none
theorem atAR_some {G : Nat → (Nat → Int) → TypeId → Ans} {args : List V} {s : Sto} {a : Ans} (h : atAR G args s = some a) : ∃ n g t b, 0 < n ∧ n < 4 ∧ args = .lse 1 0 1 0 n :: b ∧ s = AR g n t ∧ a = G n g t := by
  unfold atAR at h
  split at h
  · split at h
    · rename_i n b g m t _ hb
      obtain ⟨h1, h2, h3⟩ := lit3_some h
      obtain rfl := Nat.eq_of_beq_eq_true hb
      exact ⟨n, g, t, b, h1, h2, rfl, rfl, h3.symm⟩
    · cases h
  · cases h
/-- A list of at most three, by its length. -/
def byLen (l : List Int) (t : TypeId) : Ans := .br (Nat.beq l.length 1) (.one (.ret (AV 1)) (AR (lc l) 1 t)) (.br (Nat.beq l.length 2) (.one (.ret (AV 2)) (AR (lc l) 2 t)) (.br (Nat.beq l.length 3) (.one (.ret (AV 3)) (AR (lc l) 3 t)) .no))
theorem byLen_is {l : List Int} {t : TypeId} (hf : (byLen l t).fine) {r : Res} {s : Sto} (h : r = .ret (AV l.length) ∧ s = AR (lc l) l.length t) : (byLen l t).is r s := by
  obtain ⟨rfl, rfl⟩ := h
  unfold byLen at hf ⊢
  rcases hf with ⟨h1, _⟩ | ⟨h1, ⟨h2, _⟩ | ⟨h2, ⟨h3, _⟩ | ⟨_, h3⟩⟩⟩
  · refine .inl ⟨h1, ?_⟩
    rw [Nat.eq_of_beq_eq_true h1]
    exact ⟨rfl, rfl⟩
  · refine .inr ⟨h1, .inl ⟨h2, ?_⟩⟩
    rw [Nat.eq_of_beq_eq_true h2]
    exact ⟨rfl, rfl⟩
  · refine .inr ⟨h1, .inr ⟨h2, .inl ⟨h3, ?_⟩⟩⟩
    rw [Nat.eq_of_beq_eq_true h3]
    exact ⟨rfl, rfl⟩
  · exact h3.elim
def sortA : List V → Sto → Option Ans
  | [a], s => atAR (fun n g t => .one (.ret (.tup [])) (AR (lc (sortL (gl g n))) n t)) [a] s
  | _, _ => none
def compA : List V → Sto → Option Ans
  | [a], s => atAR (fun n g t => byLen (dedL (gl g n)) t) [a] s
  | _, _ => none
def delA : List V → Sto → Option Ans
  | [a, .fn (.func f) [] []], s => match Nat.beq f 46 with
    | true => atAR (fun n g t => .one (.ret (AV (filtL (gl g n)).length)) (AR (lc (filtL (gl g n))) (filtL (gl g n)).length t)) [a] s
    | false => none
  | _, _ => none
noncomputable def EPl : Eh := addE 43 sortA (addE 45 compA (addE 44 delA noE))
theorem EPl_ok : EOk Try.prog EPl := by
  refine addE_ok (addE_ok (addE_ok noE_ok ?_) ?_) ?_
  · intro args s a h hf
    unfold delA at h
    split at h
    · split at h
      · rename_i a' f hb
        obtain ⟨n, g, t, b, h1, h2, h3, rfl, rfl⟩ := atAR_some h
        cases h3
        obtain rfl := Nat.eq_of_beq_eq_true hb
        exact del_ok g t n h1 h2
      · cases h
    · cases h
  · intro args s a h hf
    unfold compA at h
    split at h
    · obtain ⟨n, g, t, b, h1, h2, h3, rfl, rfl⟩ := atAR_some h
      cases h3
      exact (comp_ok g t n h1 h2).mono fun r s' hk => byLen_is hf hk
    · cases h
  · intro args s a h hf
    unfold sortA at h
    split at h
    · obtain ⟨n, g, t, b, h1, h2, h3, rfl, rfl⟩ := atAR_some h
      cases h3
      exact sort_ok g t n h1 h2
    · cases h
end Go.Proofs.YtpahclogghdnpaaDoor.isa
end
section
/- formulas; printed by fm.py out of fm2.YtpahclogghdnpaaDoor.spec. -/
namespace Go.Proofs.YtpahclogghdnpaaDoor.plainG
open Go Go.Proofs Go.Proofs.YtpahclogghdnpaaDoorRL  Go.Proofs.YtpahclogghdnpaaDoor.isa
set_option linter.unusedVariables false
def p1_f (g : Nat → Int) (t : TypeId) (K : Res → Sto → Prop) : Prop :=
K (Res.ret (V.lse 1 0 1 0 (filtL (gl (lc (dedL (gl (lc (sortL (gl g 1))) 1))) 1)).length)) [Ent.no, Ent.arr (AM.grow 0) [Col.int IntKind.i64 fun j ↦ (filtL (gl (lc (dedL (gl (lc (sortL (gl g 1))) 1))) 1)).getD j 0] (filtL (gl (lc (dedL (gl (lc (sortL (gl g 1))) 1))) 1)).length t]
set_option maxRecDepth 1000000 in
theorem p1_eq (g : Nat → Int) (t : TypeId) (K : Res → Sto → Prop) : callG Try.prog EPl 100 34 [.lse 1 0 1 0 1] (AR g 1 t) K = p1_f g  t  K := by kernel_rfl
def p2_f (g : Nat → Int) (t : TypeId) (K : Res → Sto → Prop) : Prop :=
(match (dedL (gl (lc (sortL (gl g 2))) 2)).length.beq 1 with
| true => K (Res.ret (V.lse 1 0 1 0 (filtL (gl (lc (dedL (gl (lc (sortL (gl g 2))) 2))) 1)).length)) [Ent.no, Ent.arr (AM.grow 0) [Col.int IntKind.i64 fun j ↦ (filtL (gl (lc (dedL (gl (lc (sortL (gl g 2))) 2))) 1)).getD j 0] (filtL (gl (lc (dedL (gl (lc (sortL (gl g 2))) 2))) 1)).length t]
| false => (match (dedL (gl (lc (sortL (gl g 2))) 2)).length.beq 2 with
 | true => K (Res.ret (V.lse 1 0 1 0 (filtL (gl (lc (dedL (gl (lc (sortL (gl g 2))) 2))) 2)).length)) [Ent.no, Ent.arr (AM.grow 0) [Col.int IntKind.i64 fun j ↦ (filtL (gl (lc (dedL (gl (lc (sortL (gl g 2))) 2))) 2)).getD j 0] (filtL (gl (lc (dedL (gl (lc (sortL (gl g 2))) 2))) 2)).length t]
 | false => (match (dedL (gl (lc (sortL (gl g 2))) 2)).length.beq 3 with
  | true => K (Res.ret (V.lse 1 0 1 0 (filtL (gl (lc (dedL (gl (lc (sortL (gl g 2))) 2))) 3)).length)) [Ent.no, Ent.arr (AM.grow 0) [Col.int IntKind.i64 fun j ↦ (filtL (gl (lc (dedL (gl (lc (sortL (gl g 2))) 2))) 3)).getD j 0] (filtL (gl (lc (dedL (gl (lc (sortL (gl g 2))) 2))) 3)).length t]
  | false => False)))
set_option maxRecDepth 1000000 in
theorem p2_eq (g : Nat → Int) (t : TypeId) (K : Res → Sto → Prop) : callG Try.prog EPl 100 34 [.lse 1 0 1 0 2] (AR g 2 t) K = p2_f g  t  K := by kernel_rfl
def p3_f (g : Nat → Int) (t : TypeId) (K : Res → Sto → Prop) : Prop :=
(match (dedL (gl (lc (sortL (gl g 3))) 3)).length.beq 1 with
| true => K (Res.ret (V.lse 1 0 1 0 (filtL (gl (lc (dedL (gl (lc (sortL (gl g 3))) 3))) 1)).length)) [Ent.no, Ent.arr (AM.grow 0) [Col.int IntKind.i64 fun j ↦ (filtL (gl (lc (dedL (gl (lc (sortL (gl g 3))) 3))) 1)).getD j 0] (filtL (gl (lc (dedL (gl (lc (sortL (gl g 3))) 3))) 1)).length t]
| false => (match (dedL (gl (lc (sortL (gl g 3))) 3)).length.beq 2 with
 | true => K (Res.ret (V.lse 1 0 1 0 (filtL (gl (lc (dedL (gl (lc (sortL (gl g 3))) 3))) 2)).length)) [Ent.no, Ent.arr (AM.grow 0) [Col.int IntKind.i64 fun j ↦ (filtL (gl (lc (dedL (gl (lc (sortL (gl g 3))) 3))) 2)).getD j 0] (filtL (gl (lc (dedL (gl (lc (sortL (gl g 3))) 3))) 2)).length t]
 | false => (match (dedL (gl (lc (sortL (gl g 3))) 3)).length.beq 3 with
  | true => K (Res.ret (V.lse 1 0 1 0 (filtL (gl (lc (dedL (gl (lc (sortL (gl g 3))) 3))) 3)).length)) [Ent.no, Ent.arr (AM.grow 0) [Col.int IntKind.i64 fun j ↦ (filtL (gl (lc (dedL (gl (lc (sortL (gl g 3))) 3))) 3)).getD j 0] (filtL (gl (lc (dedL (gl (lc (sortL (gl g 3))) 3))) 3)).length t]
  | false => False)))
set_option maxRecDepth 1000000 in
theorem p3_eq (g : Nat → Int) (t : TypeId) (K : Res → Sto → Prop) : callG Try.prog EPl 100 34 [.lse 1 0 1 0 3] (AR g 3 t) K = p3_f g  t  K := by kernel_rfl
end Go.Proofs.YtpahclogghdnpaaDoor.plainG
end
section
/- a64.plain of at most three registers, as a table's line at any store. -/
set_option linter.unusedVariables false
set_option linter.unusedSimpArgs false
namespace Go.Proofs.YtpahclogghdnpaaDoor.isa
open Go Go.Proofs Go.Proofs.YtpahclogghdnpaaDoorRL
open Go.Proofs.YtpahclogghdnpaaDoor.plainG
theorem gl_lc {l : List Int} {n : Nat} (h1 : 0 < n) (h2 : n < 4) (h : l.length = n) : gl (lc l) n = l := by
  subst h
  match l, h1, h2 with
  | [], h, _ => exact absurd h (by decide)
  | [a], _, _ => rfl
  | [a, b], _, _ => rfl
  | [a, b, c], _, _ => rfl
  | a :: b :: c :: d :: l, _, h => exact absurd h (by simp)
theorem gl_len (g : Nat → Int) : ∀ {n : Nat}, 0 < n → n < 4 → (gl g n).length = n
  | 0, h, _ => absurd h (by decide)
  | 1, _, _ => rfl
  | 2, _, _ => rfl
  | 3, _, _ => rfl
  | n + 4, _, h => absurd h (by omega)
theorem sortL_len : ∀ (l : List Int), (sortL l).length = l.length
  | [] => rfl
  | [a] => rfl
  | [a, b] => by
    show (if b < a then [b, a] else [a, b]).length = 2
    split <;> rfl
  | [a, b, c] => by
    show (if b < a then (if c < a then (if c < b then [c, b, a] else [b, c, a]) else [b, a, c]) else (if c < b then (if c < a then [c, a, b] else [a, c, b]) else [a, b, c])).length = 3
    repeat' split
    all_goals rfl
  | a :: b :: c :: d :: l => rfl
theorem dedL_len : ∀ {l : List Int}, 0 < l.length → l.length < 4 → 0 < (dedL l).length ∧ (dedL l).length < 4
  | [], h, _ => absurd h (by decide)
  | [a], _, _ => ⟨Nat.lt_of_lt_of_eq Nat.zero_lt_one rfl, (show 1 < 4 by decide)⟩
  | [a, b], _, _ => by
    show 0 < (if b = a then [a] else [a, b]).length ∧ (if b = a then [a] else [a, b]).length < 4
    split <;> exact ⟨by simp, by simp⟩
  | [a, b, c], _, _ => by
    show 0 < (if b = a then (if c = b then [a] else [a, c]) else (if c = b then [a, b] else [a, b, c])).length ∧ (if b = a then (if c = b then [a] else [a, c]) else (if c = b then [a, b] else [a, b, c])).length < 4
    repeat' split
    all_goals exact ⟨by simp, by simp⟩
  | a :: b :: c :: d :: l, _, h => absurd h (by simp)
abbrev KP (L : List Int) (t : TypeId) : Res → Sto → Prop := fun r s => r = .ret (AV L.length) ∧ s = AR (lc L) L.length t
theorem two_len {l : List Int} (h1 : 0 < l.length) (h2 : l.length < 4) {A B C : Prop} (a : l.length = 1 → A) (b : l.length = 2 → B) (c : l.length = 3 → C) : match l.length.beq 1 with
    | true => A
    | false => match l.length.beq 2 with
      | true => B
      | false => match l.length.beq 3 with
        | true => C
        | false => False := by
  rcases (show l.length = 1 ∨ l.length = 2 ∨ l.length = 3 by omega) with h | h | h
  · rw [show l.length.beq 1 = true by rw [h]; rfl]; exact a h
  · rw [show l.length.beq 1 = false by rw [h]; rfl, show l.length.beq 2 = true by rw [h]; rfl]; exact b h
  · rw [show l.length.beq 1 = false by rw [h]; rfl, show l.length.beq 2 = false by rw [h]; rfl, show l.length.beq 3 = true by rw [h]; rfl]; exact c h
set_option maxRecDepth 100000 in
theorem plain_ok (g : Nat → Int) (t : TypeId) : ∀ n, 0 < n → n < 4 → CallOk Try.prog 34 [AV n] (AR g n t) (KP (plainL (gl g n)) t)
  | 0, h, _ => absurd h (by omega)
  | 1, _, _ => by
    refine callG_ok EPl_ok names mixed (n := 100) ?_
    have hp := p1_eq g t (KP (plainL (gl g 1)) t)
    refine hp.mpr ?_
    unfold p1_f
    exact ⟨rfl, rfl⟩
  | 2, h1, h2 => by
    refine callG_ok EPl_ok names mixed (n := 100) ?_
    have hp := p2_eq g t (KP (plainL (gl g 2)) t)
    refine hp.mpr ?_
    unfold p2_f
    have e1 := gl_lc h1 h2 ((sortL_len _).trans (gl_len g h1 h2))
    have hl := (sortL_len _).trans (gl_len g h1 h2)
    obtain ⟨k1, k2⟩ := dedL_len (l := sortL (gl g 2)) (by omega) (by omega)
    rw [e1]
    refine two_len k1 k2 (fun h => ?_) (fun h => ?_) (fun h => ?_)
    all_goals
      rw [gl_lc (by omega) (by omega) h]
      exact ⟨rfl, rfl⟩
  | 3, h1, h2 => by
    refine callG_ok EPl_ok names mixed (n := 100) ?_
    have hp := p3_eq g t (KP (plainL (gl g 3)) t)
    refine hp.mpr ?_
    unfold p3_f
    have e1 := gl_lc h1 h2 ((sortL_len _).trans (gl_len g h1 h2))
    have hl := (sortL_len _).trans (gl_len g h1 h2)
    obtain ⟨k1, k2⟩ := dedL_len (l := sortL (gl g 3)) (by omega) (by omega)
    rw [e1]
    refine two_len k1 k2 (fun h => ?_) (fun h => ?_) (fun h => ?_)
    all_goals
      rw [gl_lc (by omega) (by omega) h]
      exact ⟨rfl, rfl⟩
  | n + 4, _, h => absurd h (by omega)
end Go.Proofs.YtpahclogghdnpaaDoor.isa
end
section
/- a64.plain, a table's line at any store. -/
set_option linter.unusedVariables false
set_option linter.unusedSimpArgs false
namespace Go.Proofs.YtpahclogghdnpaaDoor.isa
open Go Go.Proofs Go.Proofs.YtpahclogghdnpaaDoorRL
def plainA : List V → Sto → Option Ans
  | [.lse i k 1 0 n], s => match Nat.blt k s.length with
    | true => match s[i]? with
      | some (.arr (.grow k') [.int .i64 g] m t) => match Nat.beq k' k with
        | true => match Nat.beq m n with
          | true => lit3 n (fun n => some (.one (.ret (.lse i k 1 0 (plainL (gl g n)).length)) (s.set i (.arr (.grow k) [.int .i64 (lc (plainL (gl g n)))] (plainL (gl g n)).length t)))) none
          | false => none
        | false => none
      | _ => none
    | false => none
  | _, _ => none
def pi2 (i k : Nat) : Nat → Nat
  | 0 => k
  | _ => i
theorem plain_at {i k n : Nat} {s : Sto} {g : Nat → Int} {t : TypeId} (h1 : 0 < n) (h2 : n < 4) (hk : k < s.length) (hi : s[i]? = some (.arr (.grow k) [.int .i64 g] n t)) :
    CallOk Try.prog 34 [.lse i k 1 0 n] s fun r s' => r = .ret (.lse i k 1 0 (plainL (gl g n)).length) ∧ s' = s.set i (.arr (.grow k) [.int .i64 (lc (plainL (gl g n)))] (plainL (gl g n)).length t) := by
  refine CallOk.frameO (s0 := AR g n t) (π := pi2 i k) (fun j e he => ?_) (fun a b e f ha hb hao hbl hab => ?_) (fun j hj => ?_) fun ρ => ⟨[AV n], rfl, ⟨⟨show 1 < 2 by decide, show 0 < 2 by decide⟩, trivial⟩, (plain_ok g t n h1 h2).mono ?_⟩
  · match j, he with
    | 0, he => cases he; exact .inl rfl
    | 1, he => cases he; exact .inr ⟨.inr hi, show 0 < 2 by decide⟩
    | j + 2, he => cases he
  · match a, b, ha, hb with
    | 0, _, ha, _ => cases ha; cases hao
    | 1, 0, _, hb => cases hb; cases hbl
    | 1, 1, _, _ => exact absurd rfl hab
    | 1, b + 2, _, hb => cases hb
    | a + 2, _, ha, _ => cases ha
  · match j, hj with
    | 0, _ => exact hk
    | 1, _ => exact (List.getElem?_eq_some_iff.1 hi).1
    | j + 2, hj => exact absurd hj (by show ¬ (j + 2 < 2); omega)
  · rintro r s' ⟨rfl, rfl⟩
    exact ⟨AR (lc (plainL (gl g n))) (plainL (gl g n)).length t, [], (List.append_nil _).symm, rfl, rfl, rfl, rfl, List.append_nil _⟩
theorem plainA_ok {E : Eh} (hE : EOk Try.prog E) : EOk Try.prog (addE 34 plainA E) := by
  refine addE_ok hE fun args s a h _ => ?_
  unfold plainA at h
  split at h
  · split at h
    · rename_i hk
      split at h
      · rename_i k' g m t hi
        split at h
        · rename_i hk'
          split at h
          · rename_i hm
            obtain rfl := Nat.eq_of_beq_eq_true hk'
            obtain rfl := Nat.eq_of_beq_eq_true hm
            obtain ⟨q1, q2, rfl⟩ := lit3_some h
            exact plain_at q1 q2 (by rwa [Nat.blt_eq] at hk) hi
          · cases h
        · cases h
      · cases h
    · cases h
  · cases h
end Go.Proofs.YtpahclogghdnpaaDoor.isa
end
section
/- a64.In, a64.Out: the table. -/
set_option linter.unusedVariables false
namespace Go.Proofs.YtpahclogghdnpaaDoor.isa
open Go Go.Proofs Go.Proofs.YtpahclogghdnpaaDoorRL
noncomputable def EIO : Eh := addE 34 plainA (specE 8 chkG (specE 59 lessG noE))
theorem EIO_ok : EOk Try.prog EIO := plainA_ok (chkG_ok (lessG_ok noE_ok))
def gcQ (K : Res → Sto → Prop) : St → Prop
  | ⟨_, t, s'⟩ => match find t 0 with
    | some v' => K (.ret v') s'
    | none => False
def gcR (K : Res → Sto → Prop) (r : Res) (s : Sto) : Prop := match r with
  | .ret v => gcQ K (gcSt 0 [0] ⟨1, [(0, v)], s⟩)
  | .pan _ => False
theorem gcQ_ok {K : Res → Sto → Prop} {q : St} (h : gcQ K q) : ∃ v', find q.t 0 = some v' ∧ K (.ret v') q.s := by
  obtain ⟨_, t, s'⟩ := q
  unfold gcQ at h
  dsimp only at h ⊢
  split at h
  · rename_i v' hv
    exact ⟨v', hv, h⟩
  · exact h.elim
theorem gcR_ok {P : Program} {f : FuncId} {args : List V} {K : Res → Sto → Prop} (h : CallOk P f args [] (gcR K)) : CallOk P f args [] K := by
  refine CallOk.gc (h.mono fun r s hk => ?_)
  cases r with
  | pan v => exact hk
  | ret v => exact gcQ_ok hk
def stk (n : Int) : Int := match n == 31 with
  | true => 32
  | false => n
def inRaw (d n m a : Int) : Nat → List Int
  | 3 => [d]
  | 4 => [stk n]
  | 5 => [stk n]
  | 6 => [stk n]
  | 7 => [n, m]
  | 8 => [n, m]
  | 9 => [n, m]
  | 10 => [n, m]
  | 11 => [n, m]
  | 12 => [n, m]
  | 13 => [n, m, a]
  | 14 => [n, m, a]
  | 15 => [n, m]
  | 16 => [n, m]
  | 17 => [n, m]
  | 18 => [n, m]
  | 19 => [n, m, 33]
  | 21 => [33]
  | 22 => [d]
  | 23 => [d]
  | 25 => [n]
  | 26 => [n]
  | 27 => [n]
  | 28 => [stk n]
  | 29 => [stk n, d]
  | 30 => [stk n]
  | 31 => [stk n, m]
  | 32 => [stk n, m, d]
  | 33 => [stk n]
  | 34 => [stk n, d]
  | 35 => [stk n]
  | 36 => [stk n, m]
  | 40 => [n]
  | 41 => [n]
  | _ => []
def outRaw (d : Int) : Nat → List Int
  | 2 => [d]
  | 3 => [d]
  | 4 => [stk d]
  | 5 => [stk d]
  | 6 => [d, 33]
  | 7 => [d]
  | 8 => [d]
  | 9 => [d, 33]
  | 10 => [d]
  | 11 => [d]
  | 12 => [d]
  | 13 => [d]
  | 14 => [d]
  | 15 => [d]
  | 16 => [d]
  | 17 => [d]
  | 18 => [d]
  | 19 => [d]
  | 24 => [30]
  | 26 => [30]
  | 28 => [d]
  | 30 => [d]
  | 31 => [d]
  | 33 => [d]
  | 35 => [d]
  | 36 => [d]
  | _ => []
def ioAns (t : TypeId) (chk : Int) (raw : List Int) : Ans := .br (chk != 0 || raw.isEmpty) (.one (.ret (.raw (.slice none 0 0))) []) (.one (.ret (.lse 1 0 1 0 (plainL raw).length)) [.no, .arr (.grow 0) [.int .i64 (lc (plainL raw))] (plainL raw).length t])
end Go.Proofs.YtpahclogghdnpaaDoor.isa
end
