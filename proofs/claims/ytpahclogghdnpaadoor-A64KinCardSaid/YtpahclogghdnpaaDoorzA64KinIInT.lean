/- Parts of the proof, one behind the other. -/
import Derived.Test.YtpahclogghdnpaaDoorzA64KinIInD
section
/- a64.In and a64.Out: contracts for each op. Printed by genio.py. -/
set_option linter.unusedVariables false
set_option linter.unusedSimpArgs false
namespace Go.Proofs.YtpahclogghdnpaaDoor.isa
open Go Go.Proofs Go.Proofs.YtpahclogghdnpaaDoorRL
def KR (K : Res → Sto → Prop) (raw : List Int) : Prop := K (.ret (.lse 1 0 1 0 (plainL raw).length)) [.no, .arr (.grow 0) [.int .i64 (lc (plainL raw))] (plainL raw).length 3]
def KN (K : Res → Sto → Prop) : Prop := K (.ret (.raw (.slice none 0 0))) []
theorem ioA {chk : Int} {raw : List Int} (h : (chk != 0) = true) : KN fun r s => (ioAns 3 chk raw).is r s := .inl ⟨by rw [h]; rfl, rfl, rfl⟩
theorem ioB {chk : Int} : KN fun r s => (ioAns 3 chk []).is r s := .inl ⟨Bool.or_true _, rfl, rfl⟩
theorem ioC {chk x : Int} {raw : List Int} (h : (chk != 0) = false) : KR (fun r s => (ioAns 3 chk (x :: raw)).is r s) (x :: raw) := .inr ⟨by rw [h]; rfl, rfl, rfl⟩
set_option maxRecDepth 1000000 in
theorem in_eq_0 (d n m a c imm : Int) (K : Res → Sto → Prop) : callG Try.prog EIO 100 11 [insV 0 d n m a c imm] [] (gcR K) = (match chkV 0 d n m a c imm != 0 with | true => KN K | false => KN K) := by kernel_rfl
set_option maxRecDepth 100000 in
theorem in_0 (d n m a c imm : Int) : CallOk Try.prog 11 [insV 0 d n m a c imm] [] fun r s => (ioAns 3 (chkV 0 d n m a c imm) (inRaw d n m a 0)).is r s := by
  refine gcR_ok (callG_ok EIO_ok names mixed (n := 100) ?_)
  have hp := in_eq_0 d n m a c imm fun r s => (ioAns 3 (chkV 0 d n m a c imm) (inRaw d n m a 0)).is r s
  refine hp.mpr ?_
  cases h : (chkV 0 d n m a c imm != 0)
  · exact ioB
  · exact ioA h
set_option maxRecDepth 1000000 in
theorem in_eq_1 (d n m a c imm : Int) (K : Res → Sto → Prop) : callG Try.prog EIO 100 11 [insV 1 d n m a c imm] [] (gcR K) = (match chkV 1 d n m a c imm != 0 with | true => KN K | false => KN K) := by kernel_rfl
set_option maxRecDepth 100000 in
theorem in_1 (d n m a c imm : Int) : CallOk Try.prog 11 [insV 1 d n m a c imm] [] fun r s => (ioAns 3 (chkV 1 d n m a c imm) (inRaw d n m a 1)).is r s := by
  refine gcR_ok (callG_ok EIO_ok names mixed (n := 100) ?_)
  have hp := in_eq_1 d n m a c imm fun r s => (ioAns 3 (chkV 1 d n m a c imm) (inRaw d n m a 1)).is r s
  refine hp.mpr ?_
  cases h : (chkV 1 d n m a c imm != 0)
  · exact ioB
  · exact ioA h
set_option maxRecDepth 1000000 in
theorem in_eq_2 (d n m a c imm : Int) (K : Res → Sto → Prop) : callG Try.prog EIO 100 11 [insV 2 d n m a c imm] [] (gcR K) = (match chkV 2 d n m a c imm != 0 with | true => KN K | false => KN K) := by kernel_rfl
set_option maxRecDepth 100000 in
theorem in_2 (d n m a c imm : Int) : CallOk Try.prog 11 [insV 2 d n m a c imm] [] fun r s => (ioAns 3 (chkV 2 d n m a c imm) (inRaw d n m a 2)).is r s := by
  refine gcR_ok (callG_ok EIO_ok names mixed (n := 100) ?_)
  have hp := in_eq_2 d n m a c imm fun r s => (ioAns 3 (chkV 2 d n m a c imm) (inRaw d n m a 2)).is r s
  refine hp.mpr ?_
  cases h : (chkV 2 d n m a c imm != 0)
  · exact ioB
  · exact ioA h
set_option maxRecDepth 1000000 in
theorem in_eq_3 (d n m a c imm : Int) (K : Res → Sto → Prop) : callG Try.prog EIO 100 11 [insV 3 d n m a c imm] [] (gcR K) = (match chkV 3 d n m a c imm != 0 with | true => KN K | false => KR K [d]) := by kernel_rfl
set_option maxRecDepth 100000 in
theorem in_3 (d n m a c imm : Int) : CallOk Try.prog 11 [insV 3 d n m a c imm] [] fun r s => (ioAns 3 (chkV 3 d n m a c imm) (inRaw d n m a 3)).is r s := by
  refine gcR_ok (callG_ok EIO_ok names mixed (n := 100) ?_)
  have hp := in_eq_3 d n m a c imm fun r s => (ioAns 3 (chkV 3 d n m a c imm) (inRaw d n m a 3)).is r s
  refine hp.mpr ?_
  cases h : (chkV 3 d n m a c imm != 0)
  · exact ioC h
  · exact ioA h
set_option maxRecDepth 1000000 in
theorem in_eq_4 (d n m a c imm : Int) (K : Res → Sto → Prop) : callG Try.prog EIO 100 11 [insV 4 d n m a c imm] [] (gcR K) = (match chkV 4 d n m a c imm != 0 with | true => KN K | false => (match d == 31 with | true => (match n == 31 with | true => KR K [32] | false => KR K [n]) | false => (match n == 31 with | true => KR K [32] | false => KR K [n]))) := by kernel_rfl
set_option maxRecDepth 100000 in
theorem in_4 (d n m a c imm : Int) : CallOk Try.prog 11 [insV 4 d n m a c imm] [] fun r s => (ioAns 3 (chkV 4 d n m a c imm) (inRaw d n m a 4)).is r s := by
  refine gcR_ok (callG_ok EIO_ok names mixed (n := 100) ?_)
  have hp := in_eq_4 d n m a c imm fun r s => (ioAns 3 (chkV 4 d n m a c imm) (inRaw d n m a 4)).is r s
  refine hp.mpr ?_
  cases h : (chkV 4 d n m a c imm != 0)
  · cases hd : (d == 31) <;> cases hn : (n == 31) <;>
    (simp only [inRaw, stk, hd, hn]; exact ioC h)
  · exact ioA h
set_option maxRecDepth 1000000 in
theorem in_eq_5 (d n m a c imm : Int) (K : Res → Sto → Prop) : callG Try.prog EIO 100 11 [insV 5 d n m a c imm] [] (gcR K) = (match chkV 5 d n m a c imm != 0 with | true => KN K | false => (match d == 31 with | true => (match n == 31 with | true => KR K [32] | false => KR K [n]) | false => (match n == 31 with | true => KR K [32] | false => KR K [n]))) := by kernel_rfl
set_option maxRecDepth 100000 in
theorem in_5 (d n m a c imm : Int) : CallOk Try.prog 11 [insV 5 d n m a c imm] [] fun r s => (ioAns 3 (chkV 5 d n m a c imm) (inRaw d n m a 5)).is r s := by
  refine gcR_ok (callG_ok EIO_ok names mixed (n := 100) ?_)
  have hp := in_eq_5 d n m a c imm fun r s => (ioAns 3 (chkV 5 d n m a c imm) (inRaw d n m a 5)).is r s
  refine hp.mpr ?_
  cases h : (chkV 5 d n m a c imm != 0)
  · cases hd : (d == 31) <;> cases hn : (n == 31) <;>
    (simp only [inRaw, stk, hd, hn]; exact ioC h)
  · exact ioA h
set_option maxRecDepth 1000000 in
theorem in_eq_6 (d n m a c imm : Int) (K : Res → Sto → Prop) : callG Try.prog EIO 100 11 [insV 6 d n m a c imm] [] (gcR K) = (match chkV 6 d n m a c imm != 0 with | true => KN K | false => (match n == 31 with | true => KR K [32] | false => KR K [n])) := by kernel_rfl
set_option maxRecDepth 100000 in
theorem in_6 (d n m a c imm : Int) : CallOk Try.prog 11 [insV 6 d n m a c imm] [] fun r s => (ioAns 3 (chkV 6 d n m a c imm) (inRaw d n m a 6)).is r s := by
  refine gcR_ok (callG_ok EIO_ok names mixed (n := 100) ?_)
  have hp := in_eq_6 d n m a c imm fun r s => (ioAns 3 (chkV 6 d n m a c imm) (inRaw d n m a 6)).is r s
  refine hp.mpr ?_
  cases h : (chkV 6 d n m a c imm != 0)
  · cases hn : (n == 31) <;>
    (simp only [inRaw, stk, hn]; exact ioC h)
  · exact ioA h
set_option maxRecDepth 1000000 in
theorem in_eq_7 (d n m a c imm : Int) (K : Res → Sto → Prop) : callG Try.prog EIO 100 11 [insV 7 d n m a c imm] [] (gcR K) = (match chkV 7 d n m a c imm != 0 with | true => KN K | false => KR K [n, m]) := by kernel_rfl
set_option maxRecDepth 100000 in
theorem in_7 (d n m a c imm : Int) : CallOk Try.prog 11 [insV 7 d n m a c imm] [] fun r s => (ioAns 3 (chkV 7 d n m a c imm) (inRaw d n m a 7)).is r s := by
  refine gcR_ok (callG_ok EIO_ok names mixed (n := 100) ?_)
  have hp := in_eq_7 d n m a c imm fun r s => (ioAns 3 (chkV 7 d n m a c imm) (inRaw d n m a 7)).is r s
  refine hp.mpr ?_
  cases h : (chkV 7 d n m a c imm != 0)
  · exact ioC h
  · exact ioA h
set_option maxRecDepth 1000000 in
theorem in_eq_8 (d n m a c imm : Int) (K : Res → Sto → Prop) : callG Try.prog EIO 100 11 [insV 8 d n m a c imm] [] (gcR K) = (match chkV 8 d n m a c imm != 0 with | true => KN K | false => KR K [n, m]) := by kernel_rfl
set_option maxRecDepth 100000 in
theorem in_8 (d n m a c imm : Int) : CallOk Try.prog 11 [insV 8 d n m a c imm] [] fun r s => (ioAns 3 (chkV 8 d n m a c imm) (inRaw d n m a 8)).is r s := by
  refine gcR_ok (callG_ok EIO_ok names mixed (n := 100) ?_)
  have hp := in_eq_8 d n m a c imm fun r s => (ioAns 3 (chkV 8 d n m a c imm) (inRaw d n m a 8)).is r s
  refine hp.mpr ?_
  cases h : (chkV 8 d n m a c imm != 0)
  · exact ioC h
  · exact ioA h
set_option maxRecDepth 1000000 in
theorem in_eq_9 (d n m a c imm : Int) (K : Res → Sto → Prop) : callG Try.prog EIO 100 11 [insV 9 d n m a c imm] [] (gcR K) = (match chkV 9 d n m a c imm != 0 with | true => KN K | false => KR K [n, m]) := by kernel_rfl
set_option maxRecDepth 100000 in
theorem in_9 (d n m a c imm : Int) : CallOk Try.prog 11 [insV 9 d n m a c imm] [] fun r s => (ioAns 3 (chkV 9 d n m a c imm) (inRaw d n m a 9)).is r s := by
  refine gcR_ok (callG_ok EIO_ok names mixed (n := 100) ?_)
  have hp := in_eq_9 d n m a c imm fun r s => (ioAns 3 (chkV 9 d n m a c imm) (inRaw d n m a 9)).is r s
  refine hp.mpr ?_
  cases h : (chkV 9 d n m a c imm != 0)
  · exact ioC h
  · exact ioA h
set_option maxRecDepth 1000000 in
theorem in_eq_10 (d n m a c imm : Int) (K : Res → Sto → Prop) : callG Try.prog EIO 100 11 [insV 10 d n m a c imm] [] (gcR K) = (match chkV 10 d n m a c imm != 0 with | true => KN K | false => KR K [n, m]) := by kernel_rfl
set_option maxRecDepth 100000 in
theorem in_10 (d n m a c imm : Int) : CallOk Try.prog 11 [insV 10 d n m a c imm] [] fun r s => (ioAns 3 (chkV 10 d n m a c imm) (inRaw d n m a 10)).is r s := by
  refine gcR_ok (callG_ok EIO_ok names mixed (n := 100) ?_)
  have hp := in_eq_10 d n m a c imm fun r s => (ioAns 3 (chkV 10 d n m a c imm) (inRaw d n m a 10)).is r s
  refine hp.mpr ?_
  cases h : (chkV 10 d n m a c imm != 0)
  · exact ioC h
  · exact ioA h
set_option maxRecDepth 1000000 in
theorem in_eq_11 (d n m a c imm : Int) (K : Res → Sto → Prop) : callG Try.prog EIO 100 11 [insV 11 d n m a c imm] [] (gcR K) = (match chkV 11 d n m a c imm != 0 with | true => KN K | false => KR K [n, m]) := by kernel_rfl
set_option maxRecDepth 100000 in
theorem in_11 (d n m a c imm : Int) : CallOk Try.prog 11 [insV 11 d n m a c imm] [] fun r s => (ioAns 3 (chkV 11 d n m a c imm) (inRaw d n m a 11)).is r s := by
  refine gcR_ok (callG_ok EIO_ok names mixed (n := 100) ?_)
  have hp := in_eq_11 d n m a c imm fun r s => (ioAns 3 (chkV 11 d n m a c imm) (inRaw d n m a 11)).is r s
  refine hp.mpr ?_
  cases h : (chkV 11 d n m a c imm != 0)
  · exact ioC h
  · exact ioA h
set_option maxRecDepth 1000000 in
theorem in_eq_12 (d n m a c imm : Int) (K : Res → Sto → Prop) : callG Try.prog EIO 100 11 [insV 12 d n m a c imm] [] (gcR K) = (match chkV 12 d n m a c imm != 0 with | true => KN K | false => KR K [n, m]) := by kernel_rfl
set_option maxRecDepth 100000 in
theorem in_12 (d n m a c imm : Int) : CallOk Try.prog 11 [insV 12 d n m a c imm] [] fun r s => (ioAns 3 (chkV 12 d n m a c imm) (inRaw d n m a 12)).is r s := by
  refine gcR_ok (callG_ok EIO_ok names mixed (n := 100) ?_)
  have hp := in_eq_12 d n m a c imm fun r s => (ioAns 3 (chkV 12 d n m a c imm) (inRaw d n m a 12)).is r s
  refine hp.mpr ?_
  cases h : (chkV 12 d n m a c imm != 0)
  · exact ioC h
  · exact ioA h
set_option maxRecDepth 1000000 in
theorem in_eq_13 (d n m a c imm : Int) (K : Res → Sto → Prop) : callG Try.prog EIO 100 11 [insV 13 d n m a c imm] [] (gcR K) = (match chkV 13 d n m a c imm != 0 with | true => KN K | false => KR K [n, m, a]) := by kernel_rfl
set_option maxRecDepth 100000 in
theorem in_13 (d n m a c imm : Int) : CallOk Try.prog 11 [insV 13 d n m a c imm] [] fun r s => (ioAns 3 (chkV 13 d n m a c imm) (inRaw d n m a 13)).is r s := by
  refine gcR_ok (callG_ok EIO_ok names mixed (n := 100) ?_)
  have hp := in_eq_13 d n m a c imm fun r s => (ioAns 3 (chkV 13 d n m a c imm) (inRaw d n m a 13)).is r s
  refine hp.mpr ?_
  cases h : (chkV 13 d n m a c imm != 0)
  · exact ioC h
  · exact ioA h
set_option maxRecDepth 1000000 in
theorem in_eq_14 (d n m a c imm : Int) (K : Res → Sto → Prop) : callG Try.prog EIO 100 11 [insV 14 d n m a c imm] [] (gcR K) = (match chkV 14 d n m a c imm != 0 with | true => KN K | false => KR K [n, m, a]) := by kernel_rfl
set_option maxRecDepth 100000 in
theorem in_14 (d n m a c imm : Int) : CallOk Try.prog 11 [insV 14 d n m a c imm] [] fun r s => (ioAns 3 (chkV 14 d n m a c imm) (inRaw d n m a 14)).is r s := by
  refine gcR_ok (callG_ok EIO_ok names mixed (n := 100) ?_)
  have hp := in_eq_14 d n m a c imm fun r s => (ioAns 3 (chkV 14 d n m a c imm) (inRaw d n m a 14)).is r s
  refine hp.mpr ?_
  cases h : (chkV 14 d n m a c imm != 0)
  · exact ioC h
  · exact ioA h
set_option maxRecDepth 1000000 in
theorem in_eq_15 (d n m a c imm : Int) (K : Res → Sto → Prop) : callG Try.prog EIO 100 11 [insV 15 d n m a c imm] [] (gcR K) = (match chkV 15 d n m a c imm != 0 with | true => KN K | false => KR K [n, m]) := by kernel_rfl
set_option maxRecDepth 100000 in
theorem in_15 (d n m a c imm : Int) : CallOk Try.prog 11 [insV 15 d n m a c imm] [] fun r s => (ioAns 3 (chkV 15 d n m a c imm) (inRaw d n m a 15)).is r s := by
  refine gcR_ok (callG_ok EIO_ok names mixed (n := 100) ?_)
  have hp := in_eq_15 d n m a c imm fun r s => (ioAns 3 (chkV 15 d n m a c imm) (inRaw d n m a 15)).is r s
  refine hp.mpr ?_
  cases h : (chkV 15 d n m a c imm != 0)
  · exact ioC h
  · exact ioA h
set_option maxRecDepth 1000000 in
theorem in_eq_16 (d n m a c imm : Int) (K : Res → Sto → Prop) : callG Try.prog EIO 100 11 [insV 16 d n m a c imm] [] (gcR K) = (match chkV 16 d n m a c imm != 0 with | true => KN K | false => KR K [n, m]) := by kernel_rfl
set_option maxRecDepth 100000 in
theorem in_16 (d n m a c imm : Int) : CallOk Try.prog 11 [insV 16 d n m a c imm] [] fun r s => (ioAns 3 (chkV 16 d n m a c imm) (inRaw d n m a 16)).is r s := by
  refine gcR_ok (callG_ok EIO_ok names mixed (n := 100) ?_)
  have hp := in_eq_16 d n m a c imm fun r s => (ioAns 3 (chkV 16 d n m a c imm) (inRaw d n m a 16)).is r s
  refine hp.mpr ?_
  cases h : (chkV 16 d n m a c imm != 0)
  · exact ioC h
  · exact ioA h
set_option maxRecDepth 1000000 in
theorem in_eq_17 (d n m a c imm : Int) (K : Res → Sto → Prop) : callG Try.prog EIO 100 11 [insV 17 d n m a c imm] [] (gcR K) = (match chkV 17 d n m a c imm != 0 with | true => KN K | false => KR K [n, m]) := by kernel_rfl
set_option maxRecDepth 100000 in
theorem in_17 (d n m a c imm : Int) : CallOk Try.prog 11 [insV 17 d n m a c imm] [] fun r s => (ioAns 3 (chkV 17 d n m a c imm) (inRaw d n m a 17)).is r s := by
  refine gcR_ok (callG_ok EIO_ok names mixed (n := 100) ?_)
  have hp := in_eq_17 d n m a c imm fun r s => (ioAns 3 (chkV 17 d n m a c imm) (inRaw d n m a 17)).is r s
  refine hp.mpr ?_
  cases h : (chkV 17 d n m a c imm != 0)
  · exact ioC h
  · exact ioA h
set_option maxRecDepth 1000000 in
theorem in_eq_18 (d n m a c imm : Int) (K : Res → Sto → Prop) : callG Try.prog EIO 100 11 [insV 18 d n m a c imm] [] (gcR K) = (match chkV 18 d n m a c imm != 0 with | true => KN K | false => KR K [n, m]) := by kernel_rfl
set_option maxRecDepth 100000 in
theorem in_18 (d n m a c imm : Int) : CallOk Try.prog 11 [insV 18 d n m a c imm] [] fun r s => (ioAns 3 (chkV 18 d n m a c imm) (inRaw d n m a 18)).is r s := by
  refine gcR_ok (callG_ok EIO_ok names mixed (n := 100) ?_)
  have hp := in_eq_18 d n m a c imm fun r s => (ioAns 3 (chkV 18 d n m a c imm) (inRaw d n m a 18)).is r s
  refine hp.mpr ?_
  cases h : (chkV 18 d n m a c imm != 0)
  · exact ioC h
  · exact ioA h
set_option maxRecDepth 1000000 in
theorem in_eq_19 (d n m a c imm : Int) (K : Res → Sto → Prop) : callG Try.prog EIO 100 11 [insV 19 d n m a c imm] [] (gcR K) = (match chkV 19 d n m a c imm != 0 with | true => KN K | false => KR K [n, m, 33]) := by kernel_rfl
set_option maxRecDepth 100000 in
theorem in_19 (d n m a c imm : Int) : CallOk Try.prog 11 [insV 19 d n m a c imm] [] fun r s => (ioAns 3 (chkV 19 d n m a c imm) (inRaw d n m a 19)).is r s := by
  refine gcR_ok (callG_ok EIO_ok names mixed (n := 100) ?_)
  have hp := in_eq_19 d n m a c imm fun r s => (ioAns 3 (chkV 19 d n m a c imm) (inRaw d n m a 19)).is r s
  refine hp.mpr ?_
  cases h : (chkV 19 d n m a c imm != 0)
  · exact ioC h
  · exact ioA h
set_option maxRecDepth 1000000 in
theorem in_eq_20 (d n m a c imm : Int) (K : Res → Sto → Prop) : callG Try.prog EIO 100 11 [insV 20 d n m a c imm] [] (gcR K) = (match chkV 20 d n m a c imm != 0 with | true => KN K | false => KN K) := by kernel_rfl
set_option maxRecDepth 100000 in
theorem in_20 (d n m a c imm : Int) : CallOk Try.prog 11 [insV 20 d n m a c imm] [] fun r s => (ioAns 3 (chkV 20 d n m a c imm) (inRaw d n m a 20)).is r s := by
  refine gcR_ok (callG_ok EIO_ok names mixed (n := 100) ?_)
  have hp := in_eq_20 d n m a c imm fun r s => (ioAns 3 (chkV 20 d n m a c imm) (inRaw d n m a 20)).is r s
  refine hp.mpr ?_
  cases h : (chkV 20 d n m a c imm != 0)
  · exact ioB
  · exact ioA h
set_option maxRecDepth 1000000 in
theorem in_eq_21 (d n m a c imm : Int) (K : Res → Sto → Prop) : callG Try.prog EIO 100 11 [insV 21 d n m a c imm] [] (gcR K) = (match chkV 21 d n m a c imm != 0 with | true => KN K | false => KR K [33]) := by kernel_rfl
set_option maxRecDepth 100000 in
theorem in_21 (d n m a c imm : Int) : CallOk Try.prog 11 [insV 21 d n m a c imm] [] fun r s => (ioAns 3 (chkV 21 d n m a c imm) (inRaw d n m a 21)).is r s := by
  refine gcR_ok (callG_ok EIO_ok names mixed (n := 100) ?_)
  have hp := in_eq_21 d n m a c imm fun r s => (ioAns 3 (chkV 21 d n m a c imm) (inRaw d n m a 21)).is r s
  refine hp.mpr ?_
  cases h : (chkV 21 d n m a c imm != 0)
  · exact ioC h
  · exact ioA h
set_option maxRecDepth 1000000 in
theorem in_eq_22 (d n m a c imm : Int) (K : Res → Sto → Prop) : callG Try.prog EIO 100 11 [insV 22 d n m a c imm] [] (gcR K) = (match chkV 22 d n m a c imm != 0 with | true => KN K | false => KR K [d]) := by kernel_rfl
set_option maxRecDepth 100000 in
theorem in_22 (d n m a c imm : Int) : CallOk Try.prog 11 [insV 22 d n m a c imm] [] fun r s => (ioAns 3 (chkV 22 d n m a c imm) (inRaw d n m a 22)).is r s := by
  refine gcR_ok (callG_ok EIO_ok names mixed (n := 100) ?_)
  have hp := in_eq_22 d n m a c imm fun r s => (ioAns 3 (chkV 22 d n m a c imm) (inRaw d n m a 22)).is r s
  refine hp.mpr ?_
  cases h : (chkV 22 d n m a c imm != 0)
  · exact ioC h
  · exact ioA h
set_option maxRecDepth 1000000 in
theorem in_eq_23 (d n m a c imm : Int) (K : Res → Sto → Prop) : callG Try.prog EIO 100 11 [insV 23 d n m a c imm] [] (gcR K) = (match chkV 23 d n m a c imm != 0 with | true => KN K | false => KR K [d]) := by kernel_rfl
set_option maxRecDepth 100000 in
theorem in_23 (d n m a c imm : Int) : CallOk Try.prog 11 [insV 23 d n m a c imm] [] fun r s => (ioAns 3 (chkV 23 d n m a c imm) (inRaw d n m a 23)).is r s := by
  refine gcR_ok (callG_ok EIO_ok names mixed (n := 100) ?_)
  have hp := in_eq_23 d n m a c imm fun r s => (ioAns 3 (chkV 23 d n m a c imm) (inRaw d n m a 23)).is r s
  refine hp.mpr ?_
  cases h : (chkV 23 d n m a c imm != 0)
  · exact ioC h
  · exact ioA h
set_option maxRecDepth 1000000 in
theorem in_eq_24 (d n m a c imm : Int) (K : Res → Sto → Prop) : callG Try.prog EIO 100 11 [insV 24 d n m a c imm] [] (gcR K) = (match chkV 24 d n m a c imm != 0 with | true => KN K | false => KN K) := by kernel_rfl
set_option maxRecDepth 100000 in
theorem in_24 (d n m a c imm : Int) : CallOk Try.prog 11 [insV 24 d n m a c imm] [] fun r s => (ioAns 3 (chkV 24 d n m a c imm) (inRaw d n m a 24)).is r s := by
  refine gcR_ok (callG_ok EIO_ok names mixed (n := 100) ?_)
  have hp := in_eq_24 d n m a c imm fun r s => (ioAns 3 (chkV 24 d n m a c imm) (inRaw d n m a 24)).is r s
  refine hp.mpr ?_
  cases h : (chkV 24 d n m a c imm != 0)
  · exact ioB
  · exact ioA h
set_option maxRecDepth 1000000 in
theorem in_eq_25 (d n m a c imm : Int) (K : Res → Sto → Prop) : callG Try.prog EIO 100 11 [insV 25 d n m a c imm] [] (gcR K) = (match chkV 25 d n m a c imm != 0 with | true => KN K | false => KR K [n]) := by kernel_rfl
set_option maxRecDepth 100000 in
theorem in_25 (d n m a c imm : Int) : CallOk Try.prog 11 [insV 25 d n m a c imm] [] fun r s => (ioAns 3 (chkV 25 d n m a c imm) (inRaw d n m a 25)).is r s := by
  refine gcR_ok (callG_ok EIO_ok names mixed (n := 100) ?_)
  have hp := in_eq_25 d n m a c imm fun r s => (ioAns 3 (chkV 25 d n m a c imm) (inRaw d n m a 25)).is r s
  refine hp.mpr ?_
  cases h : (chkV 25 d n m a c imm != 0)
  · exact ioC h
  · exact ioA h
set_option maxRecDepth 1000000 in
theorem in_eq_26 (d n m a c imm : Int) (K : Res → Sto → Prop) : callG Try.prog EIO 100 11 [insV 26 d n m a c imm] [] (gcR K) = (match chkV 26 d n m a c imm != 0 with | true => KN K | false => KR K [n]) := by kernel_rfl
set_option maxRecDepth 100000 in
theorem in_26 (d n m a c imm : Int) : CallOk Try.prog 11 [insV 26 d n m a c imm] [] fun r s => (ioAns 3 (chkV 26 d n m a c imm) (inRaw d n m a 26)).is r s := by
  refine gcR_ok (callG_ok EIO_ok names mixed (n := 100) ?_)
  have hp := in_eq_26 d n m a c imm fun r s => (ioAns 3 (chkV 26 d n m a c imm) (inRaw d n m a 26)).is r s
  refine hp.mpr ?_
  cases h : (chkV 26 d n m a c imm != 0)
  · exact ioC h
  · exact ioA h
set_option maxRecDepth 1000000 in
theorem in_eq_27 (d n m a c imm : Int) (K : Res → Sto → Prop) : callG Try.prog EIO 100 11 [insV 27 d n m a c imm] [] (gcR K) = (match chkV 27 d n m a c imm != 0 with | true => KN K | false => KR K [n]) := by kernel_rfl
set_option maxRecDepth 100000 in
theorem in_27 (d n m a c imm : Int) : CallOk Try.prog 11 [insV 27 d n m a c imm] [] fun r s => (ioAns 3 (chkV 27 d n m a c imm) (inRaw d n m a 27)).is r s := by
  refine gcR_ok (callG_ok EIO_ok names mixed (n := 100) ?_)
  have hp := in_eq_27 d n m a c imm fun r s => (ioAns 3 (chkV 27 d n m a c imm) (inRaw d n m a 27)).is r s
  refine hp.mpr ?_
  cases h : (chkV 27 d n m a c imm != 0)
  · exact ioC h
  · exact ioA h
set_option maxRecDepth 1000000 in
theorem in_eq_28 (d n m a c imm : Int) (K : Res → Sto → Prop) : callG Try.prog EIO 100 11 [insV 28 d n m a c imm] [] (gcR K) = (match chkV 28 d n m a c imm != 0 with | true => KN K | false => (match n == 31 with | true => KR K [32] | false => KR K [n])) := by kernel_rfl
set_option maxRecDepth 100000 in
theorem in_28 (d n m a c imm : Int) : CallOk Try.prog 11 [insV 28 d n m a c imm] [] fun r s => (ioAns 3 (chkV 28 d n m a c imm) (inRaw d n m a 28)).is r s := by
  refine gcR_ok (callG_ok EIO_ok names mixed (n := 100) ?_)
  have hp := in_eq_28 d n m a c imm fun r s => (ioAns 3 (chkV 28 d n m a c imm) (inRaw d n m a 28)).is r s
  refine hp.mpr ?_
  cases h : (chkV 28 d n m a c imm != 0)
  · cases hn : (n == 31) <;>
    (simp only [inRaw, stk, hn]; exact ioC h)
  · exact ioA h
set_option maxRecDepth 1000000 in
theorem in_eq_29 (d n m a c imm : Int) (K : Res → Sto → Prop) : callG Try.prog EIO 100 11 [insV 29 d n m a c imm] [] (gcR K) = (match chkV 29 d n m a c imm != 0 with | true => KN K | false => (match n == 31 with | true => KR K [32, d] | false => KR K [n, d])) := by kernel_rfl
set_option maxRecDepth 100000 in
theorem in_29 (d n m a c imm : Int) : CallOk Try.prog 11 [insV 29 d n m a c imm] [] fun r s => (ioAns 3 (chkV 29 d n m a c imm) (inRaw d n m a 29)).is r s := by
  refine gcR_ok (callG_ok EIO_ok names mixed (n := 100) ?_)
  have hp := in_eq_29 d n m a c imm fun r s => (ioAns 3 (chkV 29 d n m a c imm) (inRaw d n m a 29)).is r s
  refine hp.mpr ?_
  cases h : (chkV 29 d n m a c imm != 0)
  · cases hn : (n == 31) <;>
    (simp only [inRaw, stk, hn]; exact ioC h)
  · exact ioA h
set_option maxRecDepth 1000000 in
theorem in_eq_30 (d n m a c imm : Int) (K : Res → Sto → Prop) : callG Try.prog EIO 100 11 [insV 30 d n m a c imm] [] (gcR K) = (match chkV 30 d n m a c imm != 0 with | true => KN K | false => (match n == 31 with | true => KR K [32] | false => KR K [n])) := by kernel_rfl
set_option maxRecDepth 100000 in
theorem in_30 (d n m a c imm : Int) : CallOk Try.prog 11 [insV 30 d n m a c imm] [] fun r s => (ioAns 3 (chkV 30 d n m a c imm) (inRaw d n m a 30)).is r s := by
  refine gcR_ok (callG_ok EIO_ok names mixed (n := 100) ?_)
  have hp := in_eq_30 d n m a c imm fun r s => (ioAns 3 (chkV 30 d n m a c imm) (inRaw d n m a 30)).is r s
  refine hp.mpr ?_
  cases h : (chkV 30 d n m a c imm != 0)
  · cases hn : (n == 31) <;>
    (simp only [inRaw, stk, hn]; exact ioC h)
  · exact ioA h
set_option maxRecDepth 1000000 in
theorem in_eq_31 (d n m a c imm : Int) (K : Res → Sto → Prop) : callG Try.prog EIO 100 11 [insV 31 d n m a c imm] [] (gcR K) = (match chkV 31 d n m a c imm != 0 with | true => KN K | false => (match n == 31 with | true => KR K [32, m] | false => KR K [n, m])) := by kernel_rfl
set_option maxRecDepth 100000 in
theorem in_31 (d n m a c imm : Int) : CallOk Try.prog 11 [insV 31 d n m a c imm] [] fun r s => (ioAns 3 (chkV 31 d n m a c imm) (inRaw d n m a 31)).is r s := by
  refine gcR_ok (callG_ok EIO_ok names mixed (n := 100) ?_)
  have hp := in_eq_31 d n m a c imm fun r s => (ioAns 3 (chkV 31 d n m a c imm) (inRaw d n m a 31)).is r s
  refine hp.mpr ?_
  cases h : (chkV 31 d n m a c imm != 0)
  · cases hn : (n == 31) <;>
    (simp only [inRaw, stk, hn]; exact ioC h)
  · exact ioA h
set_option maxRecDepth 1000000 in
theorem in_eq_32 (d n m a c imm : Int) (K : Res → Sto → Prop) : callG Try.prog EIO 100 11 [insV 32 d n m a c imm] [] (gcR K) = (match chkV 32 d n m a c imm != 0 with | true => KN K | false => (match n == 31 with | true => KR K [32, m, d] | false => KR K [n, m, d])) := by kernel_rfl
set_option maxRecDepth 100000 in
theorem in_32 (d n m a c imm : Int) : CallOk Try.prog 11 [insV 32 d n m a c imm] [] fun r s => (ioAns 3 (chkV 32 d n m a c imm) (inRaw d n m a 32)).is r s := by
  refine gcR_ok (callG_ok EIO_ok names mixed (n := 100) ?_)
  have hp := in_eq_32 d n m a c imm fun r s => (ioAns 3 (chkV 32 d n m a c imm) (inRaw d n m a 32)).is r s
  refine hp.mpr ?_
  cases h : (chkV 32 d n m a c imm != 0)
  · cases hn : (n == 31) <;>
    (simp only [inRaw, stk, hn]; exact ioC h)
  · exact ioA h
set_option maxRecDepth 1000000 in
theorem in_eq_33 (d n m a c imm : Int) (K : Res → Sto → Prop) : callG Try.prog EIO 100 11 [insV 33 d n m a c imm] [] (gcR K) = (match chkV 33 d n m a c imm != 0 with | true => KN K | false => (match n == 31 with | true => KR K [32] | false => KR K [n])) := by kernel_rfl
set_option maxRecDepth 100000 in
theorem in_33 (d n m a c imm : Int) : CallOk Try.prog 11 [insV 33 d n m a c imm] [] fun r s => (ioAns 3 (chkV 33 d n m a c imm) (inRaw d n m a 33)).is r s := by
  refine gcR_ok (callG_ok EIO_ok names mixed (n := 100) ?_)
  have hp := in_eq_33 d n m a c imm fun r s => (ioAns 3 (chkV 33 d n m a c imm) (inRaw d n m a 33)).is r s
  refine hp.mpr ?_
  cases h : (chkV 33 d n m a c imm != 0)
  · cases hn : (n == 31) <;>
    (simp only [inRaw, stk, hn]; exact ioC h)
  · exact ioA h
set_option maxRecDepth 1000000 in
theorem in_eq_34 (d n m a c imm : Int) (K : Res → Sto → Prop) : callG Try.prog EIO 100 11 [insV 34 d n m a c imm] [] (gcR K) = (match chkV 34 d n m a c imm != 0 with | true => KN K | false => (match n == 31 with | true => KR K [32, d] | false => KR K [n, d])) := by kernel_rfl
set_option maxRecDepth 100000 in
theorem in_34 (d n m a c imm : Int) : CallOk Try.prog 11 [insV 34 d n m a c imm] [] fun r s => (ioAns 3 (chkV 34 d n m a c imm) (inRaw d n m a 34)).is r s := by
  refine gcR_ok (callG_ok EIO_ok names mixed (n := 100) ?_)
  have hp := in_eq_34 d n m a c imm fun r s => (ioAns 3 (chkV 34 d n m a c imm) (inRaw d n m a 34)).is r s
  refine hp.mpr ?_
  cases h : (chkV 34 d n m a c imm != 0)
  · cases hn : (n == 31) <;>
    (simp only [inRaw, stk, hn]; exact ioC h)
  · exact ioA h
set_option maxRecDepth 1000000 in
theorem in_eq_35 (d n m a c imm : Int) (K : Res → Sto → Prop) : callG Try.prog EIO 100 11 [insV 35 d n m a c imm] [] (gcR K) = (match chkV 35 d n m a c imm != 0 with | true => KN K | false => (match n == 31 with | true => KR K [32] | false => KR K [n])) := by kernel_rfl
set_option maxRecDepth 100000 in
theorem in_35 (d n m a c imm : Int) : CallOk Try.prog 11 [insV 35 d n m a c imm] [] fun r s => (ioAns 3 (chkV 35 d n m a c imm) (inRaw d n m a 35)).is r s := by
  refine gcR_ok (callG_ok EIO_ok names mixed (n := 100) ?_)
  have hp := in_eq_35 d n m a c imm fun r s => (ioAns 3 (chkV 35 d n m a c imm) (inRaw d n m a 35)).is r s
  refine hp.mpr ?_
  cases h : (chkV 35 d n m a c imm != 0)
  · cases hn : (n == 31) <;>
    (simp only [inRaw, stk, hn]; exact ioC h)
  · exact ioA h
set_option maxRecDepth 1000000 in
theorem in_eq_36 (d n m a c imm : Int) (K : Res → Sto → Prop) : callG Try.prog EIO 100 11 [insV 36 d n m a c imm] [] (gcR K) = (match chkV 36 d n m a c imm != 0 with | true => KN K | false => (match n == 31 with | true => KR K [32, m] | false => KR K [n, m])) := by kernel_rfl
set_option maxRecDepth 100000 in
theorem in_36 (d n m a c imm : Int) : CallOk Try.prog 11 [insV 36 d n m a c imm] [] fun r s => (ioAns 3 (chkV 36 d n m a c imm) (inRaw d n m a 36)).is r s := by
  refine gcR_ok (callG_ok EIO_ok names mixed (n := 100) ?_)
  have hp := in_eq_36 d n m a c imm fun r s => (ioAns 3 (chkV 36 d n m a c imm) (inRaw d n m a 36)).is r s
  refine hp.mpr ?_
  cases h : (chkV 36 d n m a c imm != 0)
  · cases hn : (n == 31) <;>
    (simp only [inRaw, stk, hn]; exact ioC h)
  · exact ioA h
set_option maxRecDepth 1000000 in
theorem in_eq_37 (d n m a c imm : Int) (K : Res → Sto → Prop) : callG Try.prog EIO 100 11 [insV 37 d n m a c imm] [] (gcR K) = (match chkV 37 d n m a c imm != 0 with | true => KN K | false => KN K) := by kernel_rfl
set_option maxRecDepth 100000 in
theorem in_37 (d n m a c imm : Int) : CallOk Try.prog 11 [insV 37 d n m a c imm] [] fun r s => (ioAns 3 (chkV 37 d n m a c imm) (inRaw d n m a 37)).is r s := by
  refine gcR_ok (callG_ok EIO_ok names mixed (n := 100) ?_)
  have hp := in_eq_37 d n m a c imm fun r s => (ioAns 3 (chkV 37 d n m a c imm) (inRaw d n m a 37)).is r s
  refine hp.mpr ?_
  cases h : (chkV 37 d n m a c imm != 0)
  · exact ioB
  · exact ioA h
set_option maxRecDepth 1000000 in
theorem in_eq_38 (d n m a c imm : Int) (K : Res → Sto → Prop) : callG Try.prog EIO 100 11 [insV 38 d n m a c imm] [] (gcR K) = (match chkV 38 d n m a c imm != 0 with | true => KN K | false => KN K) := by kernel_rfl
set_option maxRecDepth 100000 in
theorem in_38 (d n m a c imm : Int) : CallOk Try.prog 11 [insV 38 d n m a c imm] [] fun r s => (ioAns 3 (chkV 38 d n m a c imm) (inRaw d n m a 38)).is r s := by
  refine gcR_ok (callG_ok EIO_ok names mixed (n := 100) ?_)
  have hp := in_eq_38 d n m a c imm fun r s => (ioAns 3 (chkV 38 d n m a c imm) (inRaw d n m a 38)).is r s
  refine hp.mpr ?_
  cases h : (chkV 38 d n m a c imm != 0)
  · exact ioB
  · exact ioA h
set_option maxRecDepth 1000000 in
theorem in_eq_39 (d n m a c imm : Int) (K : Res → Sto → Prop) : callG Try.prog EIO 100 11 [insV 39 d n m a c imm] [] (gcR K) = (match chkV 39 d n m a c imm != 0 with | true => KN K | false => KN K) := by kernel_rfl
set_option maxRecDepth 100000 in
theorem in_39 (d n m a c imm : Int) : CallOk Try.prog 11 [insV 39 d n m a c imm] [] fun r s => (ioAns 3 (chkV 39 d n m a c imm) (inRaw d n m a 39)).is r s := by
  refine gcR_ok (callG_ok EIO_ok names mixed (n := 100) ?_)
  have hp := in_eq_39 d n m a c imm fun r s => (ioAns 3 (chkV 39 d n m a c imm) (inRaw d n m a 39)).is r s
  refine hp.mpr ?_
  cases h : (chkV 39 d n m a c imm != 0)
  · exact ioB
  · exact ioA h
set_option maxRecDepth 1000000 in
theorem in_eq_40 (d n m a c imm : Int) (K : Res → Sto → Prop) : callG Try.prog EIO 100 11 [insV 40 d n m a c imm] [] (gcR K) = (match chkV 40 d n m a c imm != 0 with | true => KN K | false => KR K [n]) := by kernel_rfl
set_option maxRecDepth 100000 in
theorem in_40 (d n m a c imm : Int) : CallOk Try.prog 11 [insV 40 d n m a c imm] [] fun r s => (ioAns 3 (chkV 40 d n m a c imm) (inRaw d n m a 40)).is r s := by
  refine gcR_ok (callG_ok EIO_ok names mixed (n := 100) ?_)
  have hp := in_eq_40 d n m a c imm fun r s => (ioAns 3 (chkV 40 d n m a c imm) (inRaw d n m a 40)).is r s
  refine hp.mpr ?_
  cases h : (chkV 40 d n m a c imm != 0)
  · exact ioC h
  · exact ioA h
set_option maxRecDepth 1000000 in
theorem in_eq_41 (d n m a c imm : Int) (K : Res → Sto → Prop) : callG Try.prog EIO 100 11 [insV 41 d n m a c imm] [] (gcR K) = (match chkV 41 d n m a c imm != 0 with | true => KN K | false => KR K [n]) := by kernel_rfl
set_option maxRecDepth 100000 in
theorem in_41 (d n m a c imm : Int) : CallOk Try.prog 11 [insV 41 d n m a c imm] [] fun r s => (ioAns 3 (chkV 41 d n m a c imm) (inRaw d n m a 41)).is r s := by
  refine gcR_ok (callG_ok EIO_ok names mixed (n := 100) ?_)
  have hp := in_eq_41 d n m a c imm fun r s => (ioAns 3 (chkV 41 d n m a c imm) (inRaw d n m a 41)).is r s
  refine hp.mpr ?_
  cases h : (chkV 41 d n m a c imm != 0)
  · exact ioC h
  · exact ioA h
set_option maxRecDepth 1000000 in
theorem in_eq_42 (d n m a c imm : Int) (K : Res → Sto → Prop) : callG Try.prog EIO 100 11 [insV 42 d n m a c imm] [] (gcR K) = (match chkV 42 d n m a c imm != 0 with | true => KN K | false => KN K) := by kernel_rfl
set_option maxRecDepth 100000 in
theorem in_42 (d n m a c imm : Int) : CallOk Try.prog 11 [insV 42 d n m a c imm] [] fun r s => (ioAns 3 (chkV 42 d n m a c imm) (inRaw d n m a 42)).is r s := by
  refine gcR_ok (callG_ok EIO_ok names mixed (n := 100) ?_)
  have hp := in_eq_42 d n m a c imm fun r s => (ioAns 3 (chkV 42 d n m a c imm) (inRaw d n m a 42)).is r s
  refine hp.mpr ?_
  cases h : (chkV 42 d n m a c imm != 0)
  · exact ioB
  · exact ioA h
set_option maxRecDepth 1000000 in
theorem ou_eq_0 (d n m a c imm : Int) (K : Res → Sto → Prop) : callG Try.prog EIO 100 13 [insV 0 d n m a c imm] [] (gcR K) = (match chkV 0 d n m a c imm != 0 with | true => KN K | false => KN K) := by kernel_rfl
set_option maxRecDepth 100000 in
theorem ou_0 (d n m a c imm : Int) : CallOk Try.prog 13 [insV 0 d n m a c imm] [] fun r s => (ioAns 3 (chkV 0 d n m a c imm) (outRaw d 0)).is r s := by
  refine gcR_ok (callG_ok EIO_ok names mixed (n := 100) ?_)
  have hp := ou_eq_0 d n m a c imm fun r s => (ioAns 3 (chkV 0 d n m a c imm) (outRaw d 0)).is r s
  refine hp.mpr ?_
  cases h : (chkV 0 d n m a c imm != 0)
  · exact ioB
  · exact ioA h
set_option maxRecDepth 1000000 in
theorem ou_eq_1 (d n m a c imm : Int) (K : Res → Sto → Prop) : callG Try.prog EIO 100 13 [insV 1 d n m a c imm] [] (gcR K) = (match chkV 1 d n m a c imm != 0 with | true => KN K | false => KN K) := by kernel_rfl
set_option maxRecDepth 100000 in
theorem ou_1 (d n m a c imm : Int) : CallOk Try.prog 13 [insV 1 d n m a c imm] [] fun r s => (ioAns 3 (chkV 1 d n m a c imm) (outRaw d 1)).is r s := by
  refine gcR_ok (callG_ok EIO_ok names mixed (n := 100) ?_)
  have hp := ou_eq_1 d n m a c imm fun r s => (ioAns 3 (chkV 1 d n m a c imm) (outRaw d 1)).is r s
  refine hp.mpr ?_
  cases h : (chkV 1 d n m a c imm != 0)
  · exact ioB
  · exact ioA h
set_option maxRecDepth 1000000 in
theorem ou_eq_2 (d n m a c imm : Int) (K : Res → Sto → Prop) : callG Try.prog EIO 100 13 [insV 2 d n m a c imm] [] (gcR K) = (match chkV 2 d n m a c imm != 0 with | true => KN K | false => KR K [d]) := by kernel_rfl
set_option maxRecDepth 100000 in
theorem ou_2 (d n m a c imm : Int) : CallOk Try.prog 13 [insV 2 d n m a c imm] [] fun r s => (ioAns 3 (chkV 2 d n m a c imm) (outRaw d 2)).is r s := by
  refine gcR_ok (callG_ok EIO_ok names mixed (n := 100) ?_)
  have hp := ou_eq_2 d n m a c imm fun r s => (ioAns 3 (chkV 2 d n m a c imm) (outRaw d 2)).is r s
  refine hp.mpr ?_
  cases h : (chkV 2 d n m a c imm != 0)
  · exact ioC h
  · exact ioA h
set_option maxRecDepth 1000000 in
theorem ou_eq_3 (d n m a c imm : Int) (K : Res → Sto → Prop) : callG Try.prog EIO 100 13 [insV 3 d n m a c imm] [] (gcR K) = (match chkV 3 d n m a c imm != 0 with | true => KN K | false => KR K [d]) := by kernel_rfl
set_option maxRecDepth 100000 in
theorem ou_3 (d n m a c imm : Int) : CallOk Try.prog 13 [insV 3 d n m a c imm] [] fun r s => (ioAns 3 (chkV 3 d n m a c imm) (outRaw d 3)).is r s := by
  refine gcR_ok (callG_ok EIO_ok names mixed (n := 100) ?_)
  have hp := ou_eq_3 d n m a c imm fun r s => (ioAns 3 (chkV 3 d n m a c imm) (outRaw d 3)).is r s
  refine hp.mpr ?_
  cases h : (chkV 3 d n m a c imm != 0)
  · exact ioC h
  · exact ioA h
set_option maxRecDepth 1000000 in
theorem ou_eq_4 (d n m a c imm : Int) (K : Res → Sto → Prop) : callG Try.prog EIO 100 13 [insV 4 d n m a c imm] [] (gcR K) = (match chkV 4 d n m a c imm != 0 with | true => KN K | false => (match d == 31 with | true => (match n == 31 with | true => KR K [32] | false => KR K [32]) | false => (match n == 31 with | true => KR K [d] | false => KR K [d]))) := by kernel_rfl
set_option maxRecDepth 100000 in
theorem ou_4 (d n m a c imm : Int) : CallOk Try.prog 13 [insV 4 d n m a c imm] [] fun r s => (ioAns 3 (chkV 4 d n m a c imm) (outRaw d 4)).is r s := by
  refine gcR_ok (callG_ok EIO_ok names mixed (n := 100) ?_)
  have hp := ou_eq_4 d n m a c imm fun r s => (ioAns 3 (chkV 4 d n m a c imm) (outRaw d 4)).is r s
  refine hp.mpr ?_
  cases h : (chkV 4 d n m a c imm != 0)
  · cases hd : (d == 31) <;> cases hn : (n == 31) <;>
    (simp only [outRaw, stk, hd, hn]; exact ioC h)
  · exact ioA h
set_option maxRecDepth 1000000 in
theorem ou_eq_5 (d n m a c imm : Int) (K : Res → Sto → Prop) : callG Try.prog EIO 100 13 [insV 5 d n m a c imm] [] (gcR K) = (match chkV 5 d n m a c imm != 0 with | true => KN K | false => (match d == 31 with | true => (match n == 31 with | true => KR K [32] | false => KR K [32]) | false => (match n == 31 with | true => KR K [d] | false => KR K [d]))) := by kernel_rfl
set_option maxRecDepth 100000 in
theorem ou_5 (d n m a c imm : Int) : CallOk Try.prog 13 [insV 5 d n m a c imm] [] fun r s => (ioAns 3 (chkV 5 d n m a c imm) (outRaw d 5)).is r s := by
  refine gcR_ok (callG_ok EIO_ok names mixed (n := 100) ?_)
  have hp := ou_eq_5 d n m a c imm fun r s => (ioAns 3 (chkV 5 d n m a c imm) (outRaw d 5)).is r s
  refine hp.mpr ?_
  cases h : (chkV 5 d n m a c imm != 0)
  · cases hd : (d == 31) <;> cases hn : (n == 31) <;>
    (simp only [outRaw, stk, hd, hn]; exact ioC h)
  · exact ioA h
set_option maxRecDepth 1000000 in
theorem ou_eq_6 (d n m a c imm : Int) (K : Res → Sto → Prop) : callG Try.prog EIO 100 13 [insV 6 d n m a c imm] [] (gcR K) = (match chkV 6 d n m a c imm != 0 with | true => KN K | false => (match n == 31 with | true => KR K [d, 33] | false => KR K [d, 33])) := by kernel_rfl
set_option maxRecDepth 100000 in
theorem ou_6 (d n m a c imm : Int) : CallOk Try.prog 13 [insV 6 d n m a c imm] [] fun r s => (ioAns 3 (chkV 6 d n m a c imm) (outRaw d 6)).is r s := by
  refine gcR_ok (callG_ok EIO_ok names mixed (n := 100) ?_)
  have hp := ou_eq_6 d n m a c imm fun r s => (ioAns 3 (chkV 6 d n m a c imm) (outRaw d 6)).is r s
  refine hp.mpr ?_
  cases h : (chkV 6 d n m a c imm != 0)
  · cases hn : (n == 31) <;>
    (simp only [outRaw, stk, hn]; exact ioC h)
  · exact ioA h
set_option maxRecDepth 1000000 in
theorem ou_eq_7 (d n m a c imm : Int) (K : Res → Sto → Prop) : callG Try.prog EIO 100 13 [insV 7 d n m a c imm] [] (gcR K) = (match chkV 7 d n m a c imm != 0 with | true => KN K | false => KR K [d]) := by kernel_rfl
set_option maxRecDepth 100000 in
theorem ou_7 (d n m a c imm : Int) : CallOk Try.prog 13 [insV 7 d n m a c imm] [] fun r s => (ioAns 3 (chkV 7 d n m a c imm) (outRaw d 7)).is r s := by
  refine gcR_ok (callG_ok EIO_ok names mixed (n := 100) ?_)
  have hp := ou_eq_7 d n m a c imm fun r s => (ioAns 3 (chkV 7 d n m a c imm) (outRaw d 7)).is r s
  refine hp.mpr ?_
  cases h : (chkV 7 d n m a c imm != 0)
  · exact ioC h
  · exact ioA h
set_option maxRecDepth 1000000 in
theorem ou_eq_8 (d n m a c imm : Int) (K : Res → Sto → Prop) : callG Try.prog EIO 100 13 [insV 8 d n m a c imm] [] (gcR K) = (match chkV 8 d n m a c imm != 0 with | true => KN K | false => KR K [d]) := by kernel_rfl
set_option maxRecDepth 100000 in
theorem ou_8 (d n m a c imm : Int) : CallOk Try.prog 13 [insV 8 d n m a c imm] [] fun r s => (ioAns 3 (chkV 8 d n m a c imm) (outRaw d 8)).is r s := by
  refine gcR_ok (callG_ok EIO_ok names mixed (n := 100) ?_)
  have hp := ou_eq_8 d n m a c imm fun r s => (ioAns 3 (chkV 8 d n m a c imm) (outRaw d 8)).is r s
  refine hp.mpr ?_
  cases h : (chkV 8 d n m a c imm != 0)
  · exact ioC h
  · exact ioA h
set_option maxRecDepth 1000000 in
theorem ou_eq_9 (d n m a c imm : Int) (K : Res → Sto → Prop) : callG Try.prog EIO 100 13 [insV 9 d n m a c imm] [] (gcR K) = (match chkV 9 d n m a c imm != 0 with | true => KN K | false => KR K [d, 33]) := by kernel_rfl
set_option maxRecDepth 100000 in
theorem ou_9 (d n m a c imm : Int) : CallOk Try.prog 13 [insV 9 d n m a c imm] [] fun r s => (ioAns 3 (chkV 9 d n m a c imm) (outRaw d 9)).is r s := by
  refine gcR_ok (callG_ok EIO_ok names mixed (n := 100) ?_)
  have hp := ou_eq_9 d n m a c imm fun r s => (ioAns 3 (chkV 9 d n m a c imm) (outRaw d 9)).is r s
  refine hp.mpr ?_
  cases h : (chkV 9 d n m a c imm != 0)
  · exact ioC h
  · exact ioA h
set_option maxRecDepth 1000000 in
theorem ou_eq_10 (d n m a c imm : Int) (K : Res → Sto → Prop) : callG Try.prog EIO 100 13 [insV 10 d n m a c imm] [] (gcR K) = (match chkV 10 d n m a c imm != 0 with | true => KN K | false => KR K [d]) := by kernel_rfl
set_option maxRecDepth 100000 in
theorem ou_10 (d n m a c imm : Int) : CallOk Try.prog 13 [insV 10 d n m a c imm] [] fun r s => (ioAns 3 (chkV 10 d n m a c imm) (outRaw d 10)).is r s := by
  refine gcR_ok (callG_ok EIO_ok names mixed (n := 100) ?_)
  have hp := ou_eq_10 d n m a c imm fun r s => (ioAns 3 (chkV 10 d n m a c imm) (outRaw d 10)).is r s
  refine hp.mpr ?_
  cases h : (chkV 10 d n m a c imm != 0)
  · exact ioC h
  · exact ioA h
set_option maxRecDepth 1000000 in
theorem ou_eq_11 (d n m a c imm : Int) (K : Res → Sto → Prop) : callG Try.prog EIO 100 13 [insV 11 d n m a c imm] [] (gcR K) = (match chkV 11 d n m a c imm != 0 with | true => KN K | false => KR K [d]) := by kernel_rfl
set_option maxRecDepth 100000 in
theorem ou_11 (d n m a c imm : Int) : CallOk Try.prog 13 [insV 11 d n m a c imm] [] fun r s => (ioAns 3 (chkV 11 d n m a c imm) (outRaw d 11)).is r s := by
  refine gcR_ok (callG_ok EIO_ok names mixed (n := 100) ?_)
  have hp := ou_eq_11 d n m a c imm fun r s => (ioAns 3 (chkV 11 d n m a c imm) (outRaw d 11)).is r s
  refine hp.mpr ?_
  cases h : (chkV 11 d n m a c imm != 0)
  · exact ioC h
  · exact ioA h
set_option maxRecDepth 1000000 in
theorem ou_eq_12 (d n m a c imm : Int) (K : Res → Sto → Prop) : callG Try.prog EIO 100 13 [insV 12 d n m a c imm] [] (gcR K) = (match chkV 12 d n m a c imm != 0 with | true => KN K | false => KR K [d]) := by kernel_rfl
set_option maxRecDepth 100000 in
theorem ou_12 (d n m a c imm : Int) : CallOk Try.prog 13 [insV 12 d n m a c imm] [] fun r s => (ioAns 3 (chkV 12 d n m a c imm) (outRaw d 12)).is r s := by
  refine gcR_ok (callG_ok EIO_ok names mixed (n := 100) ?_)
  have hp := ou_eq_12 d n m a c imm fun r s => (ioAns 3 (chkV 12 d n m a c imm) (outRaw d 12)).is r s
  refine hp.mpr ?_
  cases h : (chkV 12 d n m a c imm != 0)
  · exact ioC h
  · exact ioA h
set_option maxRecDepth 1000000 in
theorem ou_eq_13 (d n m a c imm : Int) (K : Res → Sto → Prop) : callG Try.prog EIO 100 13 [insV 13 d n m a c imm] [] (gcR K) = (match chkV 13 d n m a c imm != 0 with | true => KN K | false => KR K [d]) := by kernel_rfl
set_option maxRecDepth 100000 in
theorem ou_13 (d n m a c imm : Int) : CallOk Try.prog 13 [insV 13 d n m a c imm] [] fun r s => (ioAns 3 (chkV 13 d n m a c imm) (outRaw d 13)).is r s := by
  refine gcR_ok (callG_ok EIO_ok names mixed (n := 100) ?_)
  have hp := ou_eq_13 d n m a c imm fun r s => (ioAns 3 (chkV 13 d n m a c imm) (outRaw d 13)).is r s
  refine hp.mpr ?_
  cases h : (chkV 13 d n m a c imm != 0)
  · exact ioC h
  · exact ioA h
set_option maxRecDepth 1000000 in
theorem ou_eq_14 (d n m a c imm : Int) (K : Res → Sto → Prop) : callG Try.prog EIO 100 13 [insV 14 d n m a c imm] [] (gcR K) = (match chkV 14 d n m a c imm != 0 with | true => KN K | false => KR K [d]) := by kernel_rfl
set_option maxRecDepth 100000 in
theorem ou_14 (d n m a c imm : Int) : CallOk Try.prog 13 [insV 14 d n m a c imm] [] fun r s => (ioAns 3 (chkV 14 d n m a c imm) (outRaw d 14)).is r s := by
  refine gcR_ok (callG_ok EIO_ok names mixed (n := 100) ?_)
  have hp := ou_eq_14 d n m a c imm fun r s => (ioAns 3 (chkV 14 d n m a c imm) (outRaw d 14)).is r s
  refine hp.mpr ?_
  cases h : (chkV 14 d n m a c imm != 0)
  · exact ioC h
  · exact ioA h
set_option maxRecDepth 1000000 in
theorem ou_eq_15 (d n m a c imm : Int) (K : Res → Sto → Prop) : callG Try.prog EIO 100 13 [insV 15 d n m a c imm] [] (gcR K) = (match chkV 15 d n m a c imm != 0 with | true => KN K | false => KR K [d]) := by kernel_rfl
set_option maxRecDepth 100000 in
theorem ou_15 (d n m a c imm : Int) : CallOk Try.prog 13 [insV 15 d n m a c imm] [] fun r s => (ioAns 3 (chkV 15 d n m a c imm) (outRaw d 15)).is r s := by
  refine gcR_ok (callG_ok EIO_ok names mixed (n := 100) ?_)
  have hp := ou_eq_15 d n m a c imm fun r s => (ioAns 3 (chkV 15 d n m a c imm) (outRaw d 15)).is r s
  refine hp.mpr ?_
  cases h : (chkV 15 d n m a c imm != 0)
  · exact ioC h
  · exact ioA h
set_option maxRecDepth 1000000 in
theorem ou_eq_16 (d n m a c imm : Int) (K : Res → Sto → Prop) : callG Try.prog EIO 100 13 [insV 16 d n m a c imm] [] (gcR K) = (match chkV 16 d n m a c imm != 0 with | true => KN K | false => KR K [d]) := by kernel_rfl
set_option maxRecDepth 100000 in
theorem ou_16 (d n m a c imm : Int) : CallOk Try.prog 13 [insV 16 d n m a c imm] [] fun r s => (ioAns 3 (chkV 16 d n m a c imm) (outRaw d 16)).is r s := by
  refine gcR_ok (callG_ok EIO_ok names mixed (n := 100) ?_)
  have hp := ou_eq_16 d n m a c imm fun r s => (ioAns 3 (chkV 16 d n m a c imm) (outRaw d 16)).is r s
  refine hp.mpr ?_
  cases h : (chkV 16 d n m a c imm != 0)
  · exact ioC h
  · exact ioA h
set_option maxRecDepth 1000000 in
theorem ou_eq_17 (d n m a c imm : Int) (K : Res → Sto → Prop) : callG Try.prog EIO 100 13 [insV 17 d n m a c imm] [] (gcR K) = (match chkV 17 d n m a c imm != 0 with | true => KN K | false => KR K [d]) := by kernel_rfl
set_option maxRecDepth 100000 in
theorem ou_17 (d n m a c imm : Int) : CallOk Try.prog 13 [insV 17 d n m a c imm] [] fun r s => (ioAns 3 (chkV 17 d n m a c imm) (outRaw d 17)).is r s := by
  refine gcR_ok (callG_ok EIO_ok names mixed (n := 100) ?_)
  have hp := ou_eq_17 d n m a c imm fun r s => (ioAns 3 (chkV 17 d n m a c imm) (outRaw d 17)).is r s
  refine hp.mpr ?_
  cases h : (chkV 17 d n m a c imm != 0)
  · exact ioC h
  · exact ioA h
set_option maxRecDepth 1000000 in
theorem ou_eq_18 (d n m a c imm : Int) (K : Res → Sto → Prop) : callG Try.prog EIO 100 13 [insV 18 d n m a c imm] [] (gcR K) = (match chkV 18 d n m a c imm != 0 with | true => KN K | false => KR K [d]) := by kernel_rfl
set_option maxRecDepth 100000 in
theorem ou_18 (d n m a c imm : Int) : CallOk Try.prog 13 [insV 18 d n m a c imm] [] fun r s => (ioAns 3 (chkV 18 d n m a c imm) (outRaw d 18)).is r s := by
  refine gcR_ok (callG_ok EIO_ok names mixed (n := 100) ?_)
  have hp := ou_eq_18 d n m a c imm fun r s => (ioAns 3 (chkV 18 d n m a c imm) (outRaw d 18)).is r s
  refine hp.mpr ?_
  cases h : (chkV 18 d n m a c imm != 0)
  · exact ioC h
  · exact ioA h
set_option maxRecDepth 1000000 in
theorem ou_eq_19 (d n m a c imm : Int) (K : Res → Sto → Prop) : callG Try.prog EIO 100 13 [insV 19 d n m a c imm] [] (gcR K) = (match chkV 19 d n m a c imm != 0 with | true => KN K | false => KR K [d]) := by kernel_rfl
set_option maxRecDepth 100000 in
theorem ou_19 (d n m a c imm : Int) : CallOk Try.prog 13 [insV 19 d n m a c imm] [] fun r s => (ioAns 3 (chkV 19 d n m a c imm) (outRaw d 19)).is r s := by
  refine gcR_ok (callG_ok EIO_ok names mixed (n := 100) ?_)
  have hp := ou_eq_19 d n m a c imm fun r s => (ioAns 3 (chkV 19 d n m a c imm) (outRaw d 19)).is r s
  refine hp.mpr ?_
  cases h : (chkV 19 d n m a c imm != 0)
  · exact ioC h
  · exact ioA h
set_option maxRecDepth 1000000 in
theorem ou_eq_20 (d n m a c imm : Int) (K : Res → Sto → Prop) : callG Try.prog EIO 100 13 [insV 20 d n m a c imm] [] (gcR K) = (match chkV 20 d n m a c imm != 0 with | true => KN K | false => KN K) := by kernel_rfl
set_option maxRecDepth 100000 in
theorem ou_20 (d n m a c imm : Int) : CallOk Try.prog 13 [insV 20 d n m a c imm] [] fun r s => (ioAns 3 (chkV 20 d n m a c imm) (outRaw d 20)).is r s := by
  refine gcR_ok (callG_ok EIO_ok names mixed (n := 100) ?_)
  have hp := ou_eq_20 d n m a c imm fun r s => (ioAns 3 (chkV 20 d n m a c imm) (outRaw d 20)).is r s
  refine hp.mpr ?_
  cases h : (chkV 20 d n m a c imm != 0)
  · exact ioB
  · exact ioA h
set_option maxRecDepth 1000000 in
theorem ou_eq_21 (d n m a c imm : Int) (K : Res → Sto → Prop) : callG Try.prog EIO 100 13 [insV 21 d n m a c imm] [] (gcR K) = (match chkV 21 d n m a c imm != 0 with | true => KN K | false => KN K) := by kernel_rfl
set_option maxRecDepth 100000 in
theorem ou_21 (d n m a c imm : Int) : CallOk Try.prog 13 [insV 21 d n m a c imm] [] fun r s => (ioAns 3 (chkV 21 d n m a c imm) (outRaw d 21)).is r s := by
  refine gcR_ok (callG_ok EIO_ok names mixed (n := 100) ?_)
  have hp := ou_eq_21 d n m a c imm fun r s => (ioAns 3 (chkV 21 d n m a c imm) (outRaw d 21)).is r s
  refine hp.mpr ?_
  cases h : (chkV 21 d n m a c imm != 0)
  · exact ioB
  · exact ioA h
set_option maxRecDepth 1000000 in
theorem ou_eq_22 (d n m a c imm : Int) (K : Res → Sto → Prop) : callG Try.prog EIO 100 13 [insV 22 d n m a c imm] [] (gcR K) = (match chkV 22 d n m a c imm != 0 with | true => KN K | false => KN K) := by kernel_rfl
set_option maxRecDepth 100000 in
theorem ou_22 (d n m a c imm : Int) : CallOk Try.prog 13 [insV 22 d n m a c imm] [] fun r s => (ioAns 3 (chkV 22 d n m a c imm) (outRaw d 22)).is r s := by
  refine gcR_ok (callG_ok EIO_ok names mixed (n := 100) ?_)
  have hp := ou_eq_22 d n m a c imm fun r s => (ioAns 3 (chkV 22 d n m a c imm) (outRaw d 22)).is r s
  refine hp.mpr ?_
  cases h : (chkV 22 d n m a c imm != 0)
  · exact ioB
  · exact ioA h
set_option maxRecDepth 1000000 in
theorem ou_eq_23 (d n m a c imm : Int) (K : Res → Sto → Prop) : callG Try.prog EIO 100 13 [insV 23 d n m a c imm] [] (gcR K) = (match chkV 23 d n m a c imm != 0 with | true => KN K | false => KN K) := by kernel_rfl
set_option maxRecDepth 100000 in
theorem ou_23 (d n m a c imm : Int) : CallOk Try.prog 13 [insV 23 d n m a c imm] [] fun r s => (ioAns 3 (chkV 23 d n m a c imm) (outRaw d 23)).is r s := by
  refine gcR_ok (callG_ok EIO_ok names mixed (n := 100) ?_)
  have hp := ou_eq_23 d n m a c imm fun r s => (ioAns 3 (chkV 23 d n m a c imm) (outRaw d 23)).is r s
  refine hp.mpr ?_
  cases h : (chkV 23 d n m a c imm != 0)
  · exact ioB
  · exact ioA h
set_option maxRecDepth 1000000 in
theorem ou_eq_24 (d n m a c imm : Int) (K : Res → Sto → Prop) : callG Try.prog EIO 100 13 [insV 24 d n m a c imm] [] (gcR K) = (match chkV 24 d n m a c imm != 0 with | true => KN K | false => KR K [30]) := by kernel_rfl
set_option maxRecDepth 100000 in
theorem ou_24 (d n m a c imm : Int) : CallOk Try.prog 13 [insV 24 d n m a c imm] [] fun r s => (ioAns 3 (chkV 24 d n m a c imm) (outRaw d 24)).is r s := by
  refine gcR_ok (callG_ok EIO_ok names mixed (n := 100) ?_)
  have hp := ou_eq_24 d n m a c imm fun r s => (ioAns 3 (chkV 24 d n m a c imm) (outRaw d 24)).is r s
  refine hp.mpr ?_
  cases h : (chkV 24 d n m a c imm != 0)
  · exact ioC h
  · exact ioA h
set_option maxRecDepth 1000000 in
theorem ou_eq_25 (d n m a c imm : Int) (K : Res → Sto → Prop) : callG Try.prog EIO 100 13 [insV 25 d n m a c imm] [] (gcR K) = (match chkV 25 d n m a c imm != 0 with | true => KN K | false => KN K) := by kernel_rfl
set_option maxRecDepth 100000 in
theorem ou_25 (d n m a c imm : Int) : CallOk Try.prog 13 [insV 25 d n m a c imm] [] fun r s => (ioAns 3 (chkV 25 d n m a c imm) (outRaw d 25)).is r s := by
  refine gcR_ok (callG_ok EIO_ok names mixed (n := 100) ?_)
  have hp := ou_eq_25 d n m a c imm fun r s => (ioAns 3 (chkV 25 d n m a c imm) (outRaw d 25)).is r s
  refine hp.mpr ?_
  cases h : (chkV 25 d n m a c imm != 0)
  · exact ioB
  · exact ioA h
set_option maxRecDepth 1000000 in
theorem ou_eq_26 (d n m a c imm : Int) (K : Res → Sto → Prop) : callG Try.prog EIO 100 13 [insV 26 d n m a c imm] [] (gcR K) = (match chkV 26 d n m a c imm != 0 with | true => KN K | false => KR K [30]) := by kernel_rfl
set_option maxRecDepth 100000 in
theorem ou_26 (d n m a c imm : Int) : CallOk Try.prog 13 [insV 26 d n m a c imm] [] fun r s => (ioAns 3 (chkV 26 d n m a c imm) (outRaw d 26)).is r s := by
  refine gcR_ok (callG_ok EIO_ok names mixed (n := 100) ?_)
  have hp := ou_eq_26 d n m a c imm fun r s => (ioAns 3 (chkV 26 d n m a c imm) (outRaw d 26)).is r s
  refine hp.mpr ?_
  cases h : (chkV 26 d n m a c imm != 0)
  · exact ioC h
  · exact ioA h
set_option maxRecDepth 1000000 in
theorem ou_eq_27 (d n m a c imm : Int) (K : Res → Sto → Prop) : callG Try.prog EIO 100 13 [insV 27 d n m a c imm] [] (gcR K) = (match chkV 27 d n m a c imm != 0 with | true => KN K | false => KN K) := by kernel_rfl
set_option maxRecDepth 100000 in
theorem ou_27 (d n m a c imm : Int) : CallOk Try.prog 13 [insV 27 d n m a c imm] [] fun r s => (ioAns 3 (chkV 27 d n m a c imm) (outRaw d 27)).is r s := by
  refine gcR_ok (callG_ok EIO_ok names mixed (n := 100) ?_)
  have hp := ou_eq_27 d n m a c imm fun r s => (ioAns 3 (chkV 27 d n m a c imm) (outRaw d 27)).is r s
  refine hp.mpr ?_
  cases h : (chkV 27 d n m a c imm != 0)
  · exact ioB
  · exact ioA h
set_option maxRecDepth 1000000 in
theorem ou_eq_28 (d n m a c imm : Int) (K : Res → Sto → Prop) : callG Try.prog EIO 100 13 [insV 28 d n m a c imm] [] (gcR K) = (match chkV 28 d n m a c imm != 0 with | true => KN K | false => (match n == 31 with | true => KR K [d] | false => KR K [d])) := by kernel_rfl
set_option maxRecDepth 100000 in
theorem ou_28 (d n m a c imm : Int) : CallOk Try.prog 13 [insV 28 d n m a c imm] [] fun r s => (ioAns 3 (chkV 28 d n m a c imm) (outRaw d 28)).is r s := by
  refine gcR_ok (callG_ok EIO_ok names mixed (n := 100) ?_)
  have hp := ou_eq_28 d n m a c imm fun r s => (ioAns 3 (chkV 28 d n m a c imm) (outRaw d 28)).is r s
  refine hp.mpr ?_
  cases h : (chkV 28 d n m a c imm != 0)
  · cases hn : (n == 31) <;>
    (simp only [outRaw, stk, hn]; exact ioC h)
  · exact ioA h
set_option maxRecDepth 1000000 in
theorem ou_eq_29 (d n m a c imm : Int) (K : Res → Sto → Prop) : callG Try.prog EIO 100 13 [insV 29 d n m a c imm] [] (gcR K) = (match chkV 29 d n m a c imm != 0 with | true => KN K | false => (match n == 31 with | true => KN K | false => KN K)) := by kernel_rfl
set_option maxRecDepth 100000 in
theorem ou_29 (d n m a c imm : Int) : CallOk Try.prog 13 [insV 29 d n m a c imm] [] fun r s => (ioAns 3 (chkV 29 d n m a c imm) (outRaw d 29)).is r s := by
  refine gcR_ok (callG_ok EIO_ok names mixed (n := 100) ?_)
  have hp := ou_eq_29 d n m a c imm fun r s => (ioAns 3 (chkV 29 d n m a c imm) (outRaw d 29)).is r s
  refine hp.mpr ?_
  cases h : (chkV 29 d n m a c imm != 0)
  · cases hn : (n == 31) <;>
    (simp only [outRaw, stk, hn]; exact ioB)
  · exact ioA h
set_option maxRecDepth 1000000 in
theorem ou_eq_30 (d n m a c imm : Int) (K : Res → Sto → Prop) : callG Try.prog EIO 100 13 [insV 30 d n m a c imm] [] (gcR K) = (match chkV 30 d n m a c imm != 0 with | true => KN K | false => (match n == 31 with | true => KR K [d] | false => KR K [d])) := by kernel_rfl
set_option maxRecDepth 100000 in
theorem ou_30 (d n m a c imm : Int) : CallOk Try.prog 13 [insV 30 d n m a c imm] [] fun r s => (ioAns 3 (chkV 30 d n m a c imm) (outRaw d 30)).is r s := by
  refine gcR_ok (callG_ok EIO_ok names mixed (n := 100) ?_)
  have hp := ou_eq_30 d n m a c imm fun r s => (ioAns 3 (chkV 30 d n m a c imm) (outRaw d 30)).is r s
  refine hp.mpr ?_
  cases h : (chkV 30 d n m a c imm != 0)
  · cases hn : (n == 31) <;>
    (simp only [outRaw, stk, hn]; exact ioC h)
  · exact ioA h
set_option maxRecDepth 1000000 in
theorem ou_eq_31 (d n m a c imm : Int) (K : Res → Sto → Prop) : callG Try.prog EIO 100 13 [insV 31 d n m a c imm] [] (gcR K) = (match chkV 31 d n m a c imm != 0 with | true => KN K | false => (match n == 31 with | true => KR K [d] | false => KR K [d])) := by kernel_rfl
set_option maxRecDepth 100000 in
theorem ou_31 (d n m a c imm : Int) : CallOk Try.prog 13 [insV 31 d n m a c imm] [] fun r s => (ioAns 3 (chkV 31 d n m a c imm) (outRaw d 31)).is r s := by
  refine gcR_ok (callG_ok EIO_ok names mixed (n := 100) ?_)
  have hp := ou_eq_31 d n m a c imm fun r s => (ioAns 3 (chkV 31 d n m a c imm) (outRaw d 31)).is r s
  refine hp.mpr ?_
  cases h : (chkV 31 d n m a c imm != 0)
  · cases hn : (n == 31) <;>
    (simp only [outRaw, stk, hn]; exact ioC h)
  · exact ioA h
set_option maxRecDepth 1000000 in
theorem ou_eq_32 (d n m a c imm : Int) (K : Res → Sto → Prop) : callG Try.prog EIO 100 13 [insV 32 d n m a c imm] [] (gcR K) = (match chkV 32 d n m a c imm != 0 with | true => KN K | false => (match n == 31 with | true => KN K | false => KN K)) := by kernel_rfl
set_option maxRecDepth 100000 in
theorem ou_32 (d n m a c imm : Int) : CallOk Try.prog 13 [insV 32 d n m a c imm] [] fun r s => (ioAns 3 (chkV 32 d n m a c imm) (outRaw d 32)).is r s := by
  refine gcR_ok (callG_ok EIO_ok names mixed (n := 100) ?_)
  have hp := ou_eq_32 d n m a c imm fun r s => (ioAns 3 (chkV 32 d n m a c imm) (outRaw d 32)).is r s
  refine hp.mpr ?_
  cases h : (chkV 32 d n m a c imm != 0)
  · cases hn : (n == 31) <;>
    (simp only [outRaw, stk, hn]; exact ioB)
  · exact ioA h
set_option maxRecDepth 1000000 in
theorem ou_eq_33 (d n m a c imm : Int) (K : Res → Sto → Prop) : callG Try.prog EIO 100 13 [insV 33 d n m a c imm] [] (gcR K) = (match chkV 33 d n m a c imm != 0 with | true => KN K | false => (match n == 31 with | true => KR K [d] | false => KR K [d])) := by kernel_rfl
set_option maxRecDepth 100000 in
theorem ou_33 (d n m a c imm : Int) : CallOk Try.prog 13 [insV 33 d n m a c imm] [] fun r s => (ioAns 3 (chkV 33 d n m a c imm) (outRaw d 33)).is r s := by
  refine gcR_ok (callG_ok EIO_ok names mixed (n := 100) ?_)
  have hp := ou_eq_33 d n m a c imm fun r s => (ioAns 3 (chkV 33 d n m a c imm) (outRaw d 33)).is r s
  refine hp.mpr ?_
  cases h : (chkV 33 d n m a c imm != 0)
  · cases hn : (n == 31) <;>
    (simp only [outRaw, stk, hn]; exact ioC h)
  · exact ioA h
set_option maxRecDepth 1000000 in
theorem ou_eq_34 (d n m a c imm : Int) (K : Res → Sto → Prop) : callG Try.prog EIO 100 13 [insV 34 d n m a c imm] [] (gcR K) = (match chkV 34 d n m a c imm != 0 with | true => KN K | false => (match n == 31 with | true => KN K | false => KN K)) := by kernel_rfl
set_option maxRecDepth 100000 in
theorem ou_34 (d n m a c imm : Int) : CallOk Try.prog 13 [insV 34 d n m a c imm] [] fun r s => (ioAns 3 (chkV 34 d n m a c imm) (outRaw d 34)).is r s := by
  refine gcR_ok (callG_ok EIO_ok names mixed (n := 100) ?_)
  have hp := ou_eq_34 d n m a c imm fun r s => (ioAns 3 (chkV 34 d n m a c imm) (outRaw d 34)).is r s
  refine hp.mpr ?_
  cases h : (chkV 34 d n m a c imm != 0)
  · cases hn : (n == 31) <;>
    (simp only [outRaw, stk, hn]; exact ioB)
  · exact ioA h
set_option maxRecDepth 1000000 in
theorem ou_eq_35 (d n m a c imm : Int) (K : Res → Sto → Prop) : callG Try.prog EIO 100 13 [insV 35 d n m a c imm] [] (gcR K) = (match chkV 35 d n m a c imm != 0 with | true => KN K | false => (match n == 31 with | true => KR K [d] | false => KR K [d])) := by kernel_rfl
set_option maxRecDepth 100000 in
theorem ou_35 (d n m a c imm : Int) : CallOk Try.prog 13 [insV 35 d n m a c imm] [] fun r s => (ioAns 3 (chkV 35 d n m a c imm) (outRaw d 35)).is r s := by
  refine gcR_ok (callG_ok EIO_ok names mixed (n := 100) ?_)
  have hp := ou_eq_35 d n m a c imm fun r s => (ioAns 3 (chkV 35 d n m a c imm) (outRaw d 35)).is r s
  refine hp.mpr ?_
  cases h : (chkV 35 d n m a c imm != 0)
  · cases hn : (n == 31) <;>
    (simp only [outRaw, stk, hn]; exact ioC h)
  · exact ioA h
set_option maxRecDepth 1000000 in
theorem ou_eq_36 (d n m a c imm : Int) (K : Res → Sto → Prop) : callG Try.prog EIO 100 13 [insV 36 d n m a c imm] [] (gcR K) = (match chkV 36 d n m a c imm != 0 with | true => KN K | false => (match n == 31 with | true => KR K [d] | false => KR K [d])) := by kernel_rfl
set_option maxRecDepth 100000 in
theorem ou_36 (d n m a c imm : Int) : CallOk Try.prog 13 [insV 36 d n m a c imm] [] fun r s => (ioAns 3 (chkV 36 d n m a c imm) (outRaw d 36)).is r s := by
  refine gcR_ok (callG_ok EIO_ok names mixed (n := 100) ?_)
  have hp := ou_eq_36 d n m a c imm fun r s => (ioAns 3 (chkV 36 d n m a c imm) (outRaw d 36)).is r s
  refine hp.mpr ?_
  cases h : (chkV 36 d n m a c imm != 0)
  · cases hn : (n == 31) <;>
    (simp only [outRaw, stk, hn]; exact ioC h)
  · exact ioA h
set_option maxRecDepth 1000000 in
theorem ou_eq_37 (d n m a c imm : Int) (K : Res → Sto → Prop) : callG Try.prog EIO 100 13 [insV 37 d n m a c imm] [] (gcR K) = (match chkV 37 d n m a c imm != 0 with | true => KN K | false => KN K) := by kernel_rfl
set_option maxRecDepth 100000 in
theorem ou_37 (d n m a c imm : Int) : CallOk Try.prog 13 [insV 37 d n m a c imm] [] fun r s => (ioAns 3 (chkV 37 d n m a c imm) (outRaw d 37)).is r s := by
  refine gcR_ok (callG_ok EIO_ok names mixed (n := 100) ?_)
  have hp := ou_eq_37 d n m a c imm fun r s => (ioAns 3 (chkV 37 d n m a c imm) (outRaw d 37)).is r s
  refine hp.mpr ?_
  cases h : (chkV 37 d n m a c imm != 0)
  · exact ioB
  · exact ioA h
set_option maxRecDepth 1000000 in
theorem ou_eq_38 (d n m a c imm : Int) (K : Res → Sto → Prop) : callG Try.prog EIO 100 13 [insV 38 d n m a c imm] [] (gcR K) = (match chkV 38 d n m a c imm != 0 with | true => KN K | false => KN K) := by kernel_rfl
set_option maxRecDepth 100000 in
theorem ou_38 (d n m a c imm : Int) : CallOk Try.prog 13 [insV 38 d n m a c imm] [] fun r s => (ioAns 3 (chkV 38 d n m a c imm) (outRaw d 38)).is r s := by
  refine gcR_ok (callG_ok EIO_ok names mixed (n := 100) ?_)
  have hp := ou_eq_38 d n m a c imm fun r s => (ioAns 3 (chkV 38 d n m a c imm) (outRaw d 38)).is r s
  refine hp.mpr ?_
  cases h : (chkV 38 d n m a c imm != 0)
  · exact ioB
  · exact ioA h
set_option maxRecDepth 1000000 in
theorem ou_eq_39 (d n m a c imm : Int) (K : Res → Sto → Prop) : callG Try.prog EIO 100 13 [insV 39 d n m a c imm] [] (gcR K) = (match chkV 39 d n m a c imm != 0 with | true => KN K | false => KN K) := by kernel_rfl
set_option maxRecDepth 100000 in
theorem ou_39 (d n m a c imm : Int) : CallOk Try.prog 13 [insV 39 d n m a c imm] [] fun r s => (ioAns 3 (chkV 39 d n m a c imm) (outRaw d 39)).is r s := by
  refine gcR_ok (callG_ok EIO_ok names mixed (n := 100) ?_)
  have hp := ou_eq_39 d n m a c imm fun r s => (ioAns 3 (chkV 39 d n m a c imm) (outRaw d 39)).is r s
  refine hp.mpr ?_
  cases h : (chkV 39 d n m a c imm != 0)
  · exact ioB
  · exact ioA h
set_option maxRecDepth 1000000 in
theorem ou_eq_40 (d n m a c imm : Int) (K : Res → Sto → Prop) : callG Try.prog EIO 100 13 [insV 40 d n m a c imm] [] (gcR K) = (match chkV 40 d n m a c imm != 0 with | true => KN K | false => KN K) := by kernel_rfl
set_option maxRecDepth 100000 in
theorem ou_40 (d n m a c imm : Int) : CallOk Try.prog 13 [insV 40 d n m a c imm] [] fun r s => (ioAns 3 (chkV 40 d n m a c imm) (outRaw d 40)).is r s := by
  refine gcR_ok (callG_ok EIO_ok names mixed (n := 100) ?_)
  have hp := ou_eq_40 d n m a c imm fun r s => (ioAns 3 (chkV 40 d n m a c imm) (outRaw d 40)).is r s
  refine hp.mpr ?_
  cases h : (chkV 40 d n m a c imm != 0)
  · exact ioB
  · exact ioA h
set_option maxRecDepth 1000000 in
theorem ou_eq_41 (d n m a c imm : Int) (K : Res → Sto → Prop) : callG Try.prog EIO 100 13 [insV 41 d n m a c imm] [] (gcR K) = (match chkV 41 d n m a c imm != 0 with | true => KN K | false => KN K) := by kernel_rfl
set_option maxRecDepth 100000 in
theorem ou_41 (d n m a c imm : Int) : CallOk Try.prog 13 [insV 41 d n m a c imm] [] fun r s => (ioAns 3 (chkV 41 d n m a c imm) (outRaw d 41)).is r s := by
  refine gcR_ok (callG_ok EIO_ok names mixed (n := 100) ?_)
  have hp := ou_eq_41 d n m a c imm fun r s => (ioAns 3 (chkV 41 d n m a c imm) (outRaw d 41)).is r s
  refine hp.mpr ?_
  cases h : (chkV 41 d n m a c imm != 0)
  · exact ioB
  · exact ioA h
set_option maxRecDepth 1000000 in
theorem ou_eq_42 (d n m a c imm : Int) (K : Res → Sto → Prop) : callG Try.prog EIO 100 13 [insV 42 d n m a c imm] [] (gcR K) = (match chkV 42 d n m a c imm != 0 with | true => KN K | false => KN K) := by kernel_rfl
set_option maxRecDepth 100000 in
theorem ou_42 (d n m a c imm : Int) : CallOk Try.prog 13 [insV 42 d n m a c imm] [] fun r s => (ioAns 3 (chkV 42 d n m a c imm) (outRaw d 42)).is r s := by
  refine gcR_ok (callG_ok EIO_ok names mixed (n := 100) ?_)
  have hp := ou_eq_42 d n m a c imm fun r s => (ioAns 3 (chkV 42 d n m a c imm) (outRaw d 42)).is r s
  refine hp.mpr ?_
  cases h : (chkV 42 d n m a c imm != 0)
  · exact ioB
  · exact ioA h
end Go.Proofs.YtpahclogghdnpaaDoor.isa
end
section
/- a64.In, a64.Out: contracts for any op; lines of a table at any store. -/
set_option linter.unusedVariables false
set_option linter.unusedSimpArgs false
namespace Go.Proofs.YtpahclogghdnpaaDoor.isa
open Go Go.Proofs Go.Proofs.YtpahclogghdnpaaDoorRL
theorem in_lit (d n m a c imm : Int) : ∀ k : Nat, k < 43 → CallOk Try.prog 11 [insV k d n m a c imm] [] fun r s => (ioAns 3 (chkV k d n m a c imm) (inRaw d n m a k)).is r s
  | 0, _ => in_0 ..
  | 1, _ => in_1 ..
  | 2, _ => in_2 ..
  | 3, _ => in_3 ..
  | 4, _ => in_4 ..
  | 5, _ => in_5 ..
  | 6, _ => in_6 ..
  | 7, _ => in_7 ..
  | 8, _ => in_8 ..
  | 9, _ => in_9 ..
  | 10, _ => in_10 ..
  | 11, _ => in_11 ..
  | 12, _ => in_12 ..
  | 13, _ => in_13 ..
  | 14, _ => in_14 ..
  | 15, _ => in_15 ..
  | 16, _ => in_16 ..
  | 17, _ => in_17 ..
  | 18, _ => in_18 ..
  | 19, _ => in_19 ..
  | 20, _ => in_20 ..
  | 21, _ => in_21 ..
  | 22, _ => in_22 ..
  | 23, _ => in_23 ..
  | 24, _ => in_24 ..
  | 25, _ => in_25 ..
  | 26, _ => in_26 ..
  | 27, _ => in_27 ..
  | 28, _ => in_28 ..
  | 29, _ => in_29 ..
  | 30, _ => in_30 ..
  | 31, _ => in_31 ..
  | 32, _ => in_32 ..
  | 33, _ => in_33 ..
  | 34, _ => in_34 ..
  | 35, _ => in_35 ..
  | 36, _ => in_36 ..
  | 37, _ => in_37 ..
  | 38, _ => in_38 ..
  | 39, _ => in_39 ..
  | 40, _ => in_40 ..
  | 41, _ => in_41 ..
  | 42, _ => in_42 ..
  | k + 43, h => absurd h (by omega)
theorem ou_lit (d n m a c imm : Int) : ∀ k : Nat, k < 43 → CallOk Try.prog 13 [insV k d n m a c imm] [] fun r s => (ioAns 3 (chkV k d n m a c imm) (outRaw d k)).is r s
  | 0, _ => ou_0 ..
  | 1, _ => ou_1 ..
  | 2, _ => ou_2 ..
  | 3, _ => ou_3 ..
  | 4, _ => ou_4 ..
  | 5, _ => ou_5 ..
  | 6, _ => ou_6 ..
  | 7, _ => ou_7 ..
  | 8, _ => ou_8 ..
  | 9, _ => ou_9 ..
  | 10, _ => ou_10 ..
  | 11, _ => ou_11 ..
  | 12, _ => ou_12 ..
  | 13, _ => ou_13 ..
  | 14, _ => ou_14 ..
  | 15, _ => ou_15 ..
  | 16, _ => ou_16 ..
  | 17, _ => ou_17 ..
  | 18, _ => ou_18 ..
  | 19, _ => ou_19 ..
  | 20, _ => ou_20 ..
  | 21, _ => ou_21 ..
  | 22, _ => ou_22 ..
  | 23, _ => ou_23 ..
  | 24, _ => ou_24 ..
  | 25, _ => ou_25 ..
  | 26, _ => ou_26 ..
  | 27, _ => ou_27 ..
  | 28, _ => ou_28 ..
  | 29, _ => ou_29 ..
  | 30, _ => ou_30 ..
  | 31, _ => ou_31 ..
  | 32, _ => ou_32 ..
  | 33, _ => ou_33 ..
  | 34, _ => ou_34 ..
  | 35, _ => ou_35 ..
  | 36, _ => ou_36 ..
  | 37, _ => ou_37 ..
  | 38, _ => ou_38 ..
  | 39, _ => ou_39 ..
  | 40, _ => ou_40 ..
  | 41, _ => ou_41 ..
  | 42, _ => ou_42 ..
  | k + 43, h => absurd h (by omega)
set_option maxRecDepth 1000000 in
theorem in_out (op d n m a c imm : Int) (K : Res → Sto → Prop) : evTo Try.prog EIO 40 0 (fun _ => False) [0, 0] (codeOf Try.prog 11) ⟨(funcOf Try.prog 11).ntmps, zipArgs 0 [insV op d n m a c imm], []⟩ (bodyK False Try.prog (funcOf Try.prog 11) (gcR K)) = (match chkV op d n m a c imm != 0 with | true => KN K | false => False) := by kernel_rfl
set_option maxRecDepth 100000 in
theorem in_ok (op d n m a c imm : Int) : CallOk Try.prog 11 [insV op d n m a c imm] [] fun r s => (ioAns 3 (chkV op d n m a c imm) (inRaw d n m a op.toNat)).is r s := by
  by_cases h0 : 0 ≤ op ∧ op ≤ 42
  · obtain ⟨k, rfl⟩ := Int.eq_ofNat_of_zero_le h0.1
    exact in_lit d n m a c imm k (by omega)
  · have h1 : (chkV op d n m a c imm != 0) = true := by
      rw [show chkV op d n m a c imm = 1 from if_neg fun hh => h0 hh.1]; rfl
    refine gcR_ok (CallOk.fnB names (by kernel_rfl) ?_)
    refine CodeB.mono (K := bodyK False Try.prog (funcOf Try.prog 11) (gcR fun r s => (ioAns 3 (chkV op d n m a c imm) (inRaw d n m a op.toNat)).is r s)) ?_ fun _ _ h => h
    refine evTo_ok EIO_ok names mixed (n := 40) (b := 0) (Z := fun _ => False) [0, 0] _ _ _ (fun st hz => hz.elim) ?_
    have hq := in_out op d n m a c imm fun r s => (ioAns 3 (chkV op d n m a c imm) (inRaw d n m a op.toNat)).is r s
    refine hq.mpr ?_
    rw [h1]
    exact ioA h1
set_option maxRecDepth 1000000 in
theorem ou_out (op d n m a c imm : Int) (K : Res → Sto → Prop) : evTo Try.prog EIO 40 0 (fun _ => False) [0, 0] (codeOf Try.prog 13) ⟨(funcOf Try.prog 13).ntmps, zipArgs 0 [insV op d n m a c imm], []⟩ (bodyK False Try.prog (funcOf Try.prog 13) (gcR K)) = (match chkV op d n m a c imm != 0 with | true => KN K | false => False) := by kernel_rfl
set_option maxRecDepth 100000 in
theorem ou_ok (op d n m a c imm : Int) : CallOk Try.prog 13 [insV op d n m a c imm] [] fun r s => (ioAns 3 (chkV op d n m a c imm) (outRaw d op.toNat)).is r s := by
  by_cases h0 : 0 ≤ op ∧ op ≤ 42
  · obtain ⟨k, rfl⟩ := Int.eq_ofNat_of_zero_le h0.1
    exact ou_lit d n m a c imm k (by omega)
  · have h1 : (chkV op d n m a c imm != 0) = true := by
      rw [show chkV op d n m a c imm = 1 from if_neg fun hh => h0 hh.1]; rfl
    refine gcR_ok (CallOk.fnB names (by kernel_rfl) ?_)
    refine CodeB.mono (K := bodyK False Try.prog (funcOf Try.prog 13) (gcR fun r s => (ioAns 3 (chkV op d n m a c imm) (outRaw d op.toNat)).is r s)) ?_ fun _ _ h => h
    refine evTo_ok EIO_ok names mixed (n := 40) (b := 0) (Z := fun _ => False) [0, 0] _ _ _ (fun st hz => hz.elim) ?_
    have hq := ou_out op d n m a c imm fun r s => (ioAns 3 (chkV op d n m a c imm) (outRaw d op.toNat)).is r s
    refine hq.mpr ?_
    rw [h1]
    exact ioA h1
def ioG (raw : Int → Int → Int → Int → Int → List Int) : List V → Sto → Option Ans
  | [u], s => match readIns u with
    | some (op, d, n, m, a, c, imm) => some (.br (chkV op d n m a c imm != 0 || (raw op d n m a).isEmpty) (.one (.ret (.raw (.slice none 0 0))) s) (.one (.ret (.lse (s.length + 1) s.length 1 0 (plainL (raw op d n m a)).length)) (s ++ [.no, .arr (.grow s.length) [.int .i64 (lc (plainL (raw op d n m a)))] (plainL (raw op d n m a)).length 3])))
    | none => none
  | _, _ => none
theorem io_at {f : FuncId} {op d n m a c imm : Int} {raw : List Int} (h : CallOk Try.prog f [insV op d n m a c imm] [] fun r s => (ioAns 3 (chkV op d n m a c imm) raw).is r s) (s : Sto) :
    CallOk Try.prog f [insV op d n m a c imm] s fun r s' => (Ans.br (chkV op d n m a c imm != 0 || raw.isEmpty) (.one (.ret (.raw (.slice none 0 0))) s) (.one (.ret (.lse (s.length + 1) s.length 1 0 (plainL raw).length)) (s ++ [.no, .arr (.grow s.length) [.int .i64 (lc (plainL raw))] (plainL raw).length 3]))).is r s' := by
  refine CallOk.frame (s0 := []) (π := fun i => i) (fun j e he => by cases he) (fun j e he => by cases he) (fun j hj => absurd hj (Nat.not_lt_zero j)) fun ρ => ⟨[insV op d n m a c imm], rfl, ⟨insV_bd .., trivial⟩, h.mono fun r s' hk => ?_⟩
  have p0 : piX 0 s.length (fun i => i) 0 = s.length := piX_at (n := 0) (q := 0)
  have p1 : piX 0 s.length (fun i => i) 1 = s.length + 1 := piX_at (n := 0) (q := 1)
  rcases hk with ⟨hb, rfl, rfl⟩ | ⟨hb, rfl, rfl⟩
  · exact ⟨[], rfl, rfl, .inl ⟨hb, rfl, List.append_nil _⟩⟩
  · refine ⟨_, (List.nil_append _).symm, rfl, .inr ⟨hb, ?_, ?_⟩⟩
    · show Res.ret (.lse (piX 0 s.length (fun i => i) 1) (piX 0 s.length (fun i => i) 0) 1 0 _) = _
      rw [p0, p1]
    · show s ++ [Ent.no, .arr (.grow (piX 0 s.length (fun i => i) 0)) _ _ _] = _
      rw [p0]
def inA := ioG fun op d n m a => inRaw d n m a op.toNat
def ouA := ioG fun op d n m a => outRaw d op.toNat
theorem inA_ok {E : Eh} (hE : EOk Try.prog E) : EOk Try.prog (addE 11 inA E) := by
  refine addE_ok hE fun args s a h _ => ?_
  unfold inA ioG at h
  split at h
  · split at h
    · rename_i u op d n m a' c imm hr
      cases h
      rw [readIns_eq hr]
      exact io_at (in_ok ..) s
    · cases h
  · cases h
theorem ouA_ok {E : Eh} (hE : EOk Try.prog E) : EOk Try.prog (addE 13 ouA E) := by
  refine addE_ok hE fun args s a h _ => ?_
  unfold ouA ioG at h
  split at h
  · split at h
    · rename_i u op d n m a' c imm hr
      cases h
      rw [readIns_eq hr]
      exact io_at (ou_ok ..) s
    · cases h
  · cases h
end Go.Proofs.YtpahclogghdnpaaDoor.isa
end
