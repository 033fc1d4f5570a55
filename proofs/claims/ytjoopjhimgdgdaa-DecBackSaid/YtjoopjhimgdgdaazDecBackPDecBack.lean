/- DecBack: what the law's function computes, and that it is true. -/
import Derived.Test.YtjoopjhimgdgdaazDecBackPDecF
import Derived.Test.YtjoopjhimgdgdaazDecBackRLRow2
set_option linter.unusedVariables false
set_option linter.unusedSimpArgs false
namespace Go.Proofs.Ytjoopjhimgdgdaa.decBack
open Go Go.Proofs Go.Proofs.YtjoopjhimgdgdaaRL Go.Proofs.Ytjoopjhimgdgdaa.isa Go.Proofs.Ytjoopjhimgdgdaa.decLaws
theorem EB_ok : EOk Try.prog EB := decA_ok (chkG_ok (wordG_ok noE_ok))
theorem back_ok (op d n m a c im : Int) {w : Int} (h0 : 0 ≤ w) (h1 : w < 4294967296) (K : Res → Prop) (hK : K (.ret (.raw (.bool true)))) : back_f op d n m a c im w K := by
  have c1 : decide (0 ≤ w ∧ w < 4294967296) = true := decide_eq_true ⟨h0, h1⟩
  have hw := wordV_lt op d n m a c im
  have c2 : decide (0 ≤ wordV op d n m a c im ∧ wordV op d n m a c im < 4294967296) = true := decide_eq_true hw
  have k1 : chkV (decI w).op (decI w).d (decI w).n (decI w).m (decI w).a (decI w).c (decI w).im = 0 := if_pos (dec_ok h0)
  have k2 : (!((decI w).op != 0) == ((decI w).op != 0)) = false := by cases ((decI w).op != 0) <;> rfl
  have e0 : ((0 : Int) == 0) = true := rfl
  have e1 : ((0 : Int) != 0) = false := rfl
  have e2 : ((1 : Int) == 0) = false := rfl
  have last : (match wordV (decI w).op (decI w).d (decI w).n (decI w).m (decI w).a (decI w).c (decI w).im == w with
      | true => K (Res.ret (V.raw (Value.bool true)))
      | false => (match (decI w).op == 0 with
        | true => K (Res.ret (V.raw (Value.bool (IntKind.u32.wrap (decI w).im == Go.bits BinOp.and IntKind.u32 w 65535))))
        | false => K (Res.ret (V.raw (Value.bool false))))) := by
    by_cases hz : (decI w).op = 0
    · have e3 : ((decI w).op == 0) = true := by rw [hz]; rfl
      simp only [e3]
      have e4 : (IntKind.u32.wrap (decI w).im == Go.bits BinOp.and IntKind.u32 w 65535) = true := by
        rw [dec_udf hz]
        have h := and_1 (w := w) 0 16 65535 rfl (by omega) h0 h1
        rw [h]
        show (IntKind.u32.wrap (w % 65536) == w / 1 % 65536 * 1) = true
        rw [wrap_u32_in (by omega) (by omega), Int.ediv_one, Int.mul_one, beq_self_eq_true]
      rw [e4]
      split <;> exact hK
    · have e3 : wordV (decI w).op (decI w).d (decI w).n (decI w).m (decI w).a (decI w).c (decI w).im = w := dec_back hz
      rw [e3, beq_self_eq_true]; exact hK
  by_cases ho : okI op d n m a c im
  · have k0 : chkV op d n m a c im = 0 := if_pos ho
    have hd : decI (wordV op d n m a c im) = ⟨op, d, n, m, a, c, im⟩ := dec_word' (i := ⟨op, d, n, m, a, c, im⟩) ho
    unfold back_f
    have k3 : (!(op != 0) == (op != 0)) = false := by cases (op != 0) <;> rfl
    simp only [k0, c1, c2, k1, k2, hd, e0, e1, beq_self_eq_true, Bool.and_self, Bool.not_true, k3]
    exact last
  · have k0 : chkV op d n m a c im = 1 := if_neg ho
    unfold back_f
    simp only [k0, c1, k1, k2, e0, e1, e2]
    exact last
theorem law_w (op d n m a c im : Int) {w : Int} (h0 : 0 ≤ w) (h1 : w < 4294967296) : CallOk Try.prog 4 [insV op d n m a c im, .raw (.int .u32 w)] [] fun r _ => r = .ret (.raw (.bool true)) := by
  refine callG_ok EB_ok names mixed (n := 100) ?_
  have hp := back_eq op d n m a c im w fun r => r = .ret (.raw (.bool true))
  exact hp.mpr (back_ok op d n m a c im h0 h1 _ rfl)
def aks : List AK := [.agg [.int .i64, .int .i64, .int .i64, .int .i64, .int .i64, .int .i64, .int .i64], .one (.int .u32)]
theorem law_call : ∀ args, argsOk aks args → CallOk Try.prog 4 args [] fun r _ => r = .ret (.raw (.bool true)) := by
  intro args h
  match args, h with
  | [.agg ws, .raw _], ⟨hi, ⟨w, rfl, hw⟩, _⟩ =>
    have h2 : 0 ≤ w ∧ w ≤ 4294967295 := by simpa [Lit.wf, IntKind.has, IntKind.min, IntKind.max, IntKind.signed, IntKind.bits] using hw
    obtain ⟨op, ws, rfl, _, hi⟩ := rawsOk_int hi
    obtain ⟨d, ws, rfl, _, hi⟩ := rawsOk_int hi
    obtain ⟨n, ws, rfl, _, hi⟩ := rawsOk_int hi
    obtain ⟨m, ws, rfl, _, hi⟩ := rawsOk_int hi
    obtain ⟨a, ws, rfl, _, hi⟩ := rawsOk_int hi
    obtain ⟨c, ws, rfl, _, hi⟩ := rawsOk_int hi
    obtain ⟨im, ws, rfl, _, hi⟩ := rawsOk_int hi
    cases rawsOk_nil hi
    exact law_w op d n m a c im h2.1 (by omega)
end Go.Proofs.Ytjoopjhimgdgdaa.decBack
