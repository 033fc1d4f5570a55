/- HeapMonitors: what the law's function computes, and that it is true. -/
import Derived.Test.YtfgbaolilodjoaazHeapMonitorsPMonF
namespace Go.Proofs.Ytfgbaolilodjoaa.heapMonitors
open Go Go.Proofs Go.Proofs.YtfgbaolilodjoaaRL
set_option linter.unusedVariables false
set_option linter.unusedSimpArgs false
def inv (i : Nat) (ow co : Int) : Prop := (co = 0 ∧ ow = -1) ∨ (1 ≤ co ∧ co ≤ i ∧ 0 ≤ ow ∧ ow ≤ 2)
theorem blt_yes {a b : Nat} (h : a < b) : Nat.blt a b = true := by rw [Nat.blt_eq]; exact h
set_option maxHeartbeats 4000000 in
theorem round (g : Nat → Int) (n cap i : Nat) (ow co : Int) (K : Ex → St → Prop) (hn : n ≤ 300) (hi : i ≤ n) (hv : inv i ow co)
    (hx : i = n → K (.exit 0) (S g n cap i ow co)) (hnx : i < n → ∀ ow' co', inv (i + 1) ow' co' → K .normal (S g n cap (i + 1) ow' co')) : body_f g n cap i ow co K := by
  unfold body_f
  by_cases hlt : i < n
  · have h1 : decide ((i : Int) < (n : Int)) = true := decide_eq_true (by omega)
    have h2 : Nat.blt ((i : Int).toNat + 0) n = true := blt_yes (by simpa using hlt)
    have e1 : (g ((i : Int).toNat + 0)) = g i := rfl
    have hw4 : IntKind.i64.wrap ((i : Int) + 1) = (i : Int) + 1 := IntWalk.i64_in _ (by omega)
    simp only [h1, h2, e1]
    generalize g i = a at *
    have ht : -2 ≤ a.tmod 3 ∧ a.tmod 3 ≤ 2 := by
      have := Int.tmod_lt_of_pos a (b := 3) (by omega)
      have := Int.lt_tmod_of_pos a (b := 3) (by omega)
      omega
    have hw1 : IntKind.i64.wrap (0 - a.tmod 3) = 0 - a.tmod 3 := IntWalk.i64_in _ (by omega)
    have hc : 0 ≤ co ∧ co ≤ 300 := by unfold inv at hv; omega
    have hw2 : IntKind.i64.wrap (co + 1) = co + 1 := IntWalk.i64_in _ (by omega)
    have hw3 : IntKind.i64.wrap (co - 1) = co - 1 := IntWalk.i64_in _ (by omega)
    simp only [hw1, hw2, hw3, hw4]
    clear h1 h2 e1 hw1 hw2 hw3 hw4 hx
    repeat' split
    all_goals simp only [decide_eq_true_eq, decide_eq_false_iff_not, beq_iff_eq, beq_eq_false_iff_ne, bne_iff_ne, ne_eq, bne_eq_false_iff_eq, Bool.not_eq_true, Bool.not_eq_false, Bool.not_false, Bool.not_true, Bool.true_beq, Bool.false_beq, Bool.true_bne, Bool.false_bne, Bool.bne_true, Bool.bne_false, Bool.not_not, Bool.not_eq_eq_eq_not, Int.negSucc_eq] at *
    all_goals first
      | contradiction
      | exact absurd trivial (by assumption)
      | (exfalso; unfold inv at hv; omega)
      | (refine hnx hlt _ _ ?_; unfold inv at *; omega)
      | (obtain rfl : ow = -1 := by unfold inv at hv; omega
         refine hnx hlt _ _ ?_; unfold inv at *; omega)
  · obtain rfl : i = n := by omega
    have h1 : decide ((i : Int) < (i : Int)) = false := decide_eq_false (by omega)
    simp only [h1]
    exact hx rfl
def I (g : Nat → Int) (n cap : Nat) (st : St) : Prop := ∃ i ow co, st = S g n cap i ow co ∧ i ≤ n ∧ inv i ow co
/-- How many rounds are left. -/
def left (n : Nat) (st : St) : Nat := match find st.t 7 with
  | some (.raw (.int _ i)) => n - i.toNat
  | _ => 0
theorem sel_S (g : Nat → Int) (n cap i : Nat) (ow co : Int) : selSt 1 [1,2,3,4,5] [0,3,5,6,7] (S g n cap i ow co) = S g n cap i ow co := by kernel_rfl
theorem after (K : Ex → St → Prop) (st : St) : ctxK Try.prog 1 pth (codeOf Try.prog 4) K (.exit 0) st = CodeB Try.prog 1 (subAt [0,0,0,0,0,0,0,0,0] (codeOf Try.prog 4)) st K := by kernel_rfl
theorem law_sl (g : Nat → Int) (n cap : Nat) (hn : 0 < n) : CallOk Try.prog 4 [.sle 0 1 0 n cap] [.arr .ro [.int .i64 g] n 0] fun r _ => r = .ret (.raw (.bool true)) := by
  refine CallOk.fnB names (by kernel_rfl) ?_
  refine CodeB.mono (K := bodyK False Try.prog (funcOf Try.prog 4) fun r _ => r = .ret (.raw (.bool true))) ?_ fun _ _ h => h
  refine evTo_ok noD_ok names mixed (n := 30) (b := 1) (Z := fun st => n ≤ 300 ∧ selSt 1 [23,24,25,27,28] [0,3,5,6,7] st = S g n cap 0 (-1) 0) pth _ _ _ (fun st hz => ?_) ?_
  · obtain ⟨hn3, hz⟩ := hz
    refine CodeB.sel [23,24,25,27,28] [0,3,5,6,7] rfl ?_
    rw [hz]
    refine CodeB.lop (by kernel_rfl) (LoopB.byX [1,2,3,4,5] [0,3,5,6,7] [1,2,3,4,5] [0,3,5,6,7] rfl rfl (I g n cap) (left n) ?_ _ ?_)
    · rintro st ⟨i, ow, co, rfl, hi, hv⟩
      have hb := round g n cap i ow co (fun e s => match e with
        | .normal => I g n cap s ∧ left n s < left n (S g n cap i ow co)
        | .panic _ => False
        | e => ctxK Try.prog 1 pth (codeOf Try.prog 4) (bodyK False Try.prog (funcOf Try.prog 4) fun r _ => r = .ret (.raw (.bool true))) e s) hn3 hi hv ?_ ?_
      · rw [← body_eq] at hb
        exact (CodeB.of (evG_ok noD_ok names mixed hb)).mono fun e s he => by cases e <;> exact he
      · rintro rfl
        show ctxK Try.prog 1 pth (codeOf Try.prog 4) (bodyK False Try.prog (funcOf Try.prog 4) fun r _ => r = .ret (.raw (.bool true))) (.exit 0) (S g i cap i ow co)
        rw [after]
        refine CodeB.of (evG_ok noD_ok names mixed (n := 30) ?_)
        have hp := post_eq g i cap i ow co fun r => r = .ret (.raw (.bool true))
        rw [hp]
        exact Eq.refl (Res.ret (.raw (.bool true)))
      · intro hlt ow' co' hv'
        refine ⟨⟨i + 1, ow', co', rfl, by omega, hv'⟩, ?_⟩
        show n - (i + 1) < n - i
        omega
    · rw [sel_S]
      exact ⟨0, -1, 0, rfl, by omega, .inl ⟨rfl, rfl⟩⟩
  · have hp := pre_eq g n cap (fun r => r = .ret (.raw (.bool true))) fun st => n ≤ 300 ∧ st = S g n cap 0 (-1) 0
    rw [hp]
    unfold pre_f
    split
    · rfl
    · rename_i h
      have := of_decide_eq_false h
      exact ⟨by omega, rfl⟩
def aks : List AS := [.sl [.int .i64]]
theorem law_call : ∀ args s, argsOkS 0 aks args s → CallOk Try.prog 4 args s fun r _ => r = .ret (.raw (.bool true)) := law_viaA fun args s h => by
  rcases argsOkA_sl h with ⟨p, cap, vs, s', rfl, rfl, h2⟩ | ⟨n, cap, cols, vs, s', hn, rfl, rfl, hcap, hmx, hc, h2⟩
  · obtain ⟨rfl, rfl⟩ := argsOkA_nil h2
    exact lawI_sound noD_ok names mixed (n := 100) (by kernel_rfl)
  · obtain ⟨rfl, rfl⟩ := argsOkA_nil h2
    obtain ⟨g, cs, rfl, hg, hc⟩ := colsOkA_int hc
    cases colsOkA_nil hc
    exact law_sl g n cap hn
end Go.Proofs.Ytfgbaolilodjoaa.heapMonitors
