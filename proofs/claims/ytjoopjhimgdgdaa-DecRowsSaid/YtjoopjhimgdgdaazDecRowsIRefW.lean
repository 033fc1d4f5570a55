/- brazierref3.Word as a table's line. Printed by genword.py. -/
import Derived.Test.YtjoopjhimgdgdaazDecRowsIRefC
namespace Go.Proofs.Ytjoopjhimgdgdaa.isa
open Go Go.Proofs Go.Proofs.YtjoopjhimgdgdaaRL
set_option linter.unusedVariables false
set_option linter.unusedSimpArgs false
theorem or_add {w v : Int} (lo n : Nat) (p M : Int) (hM : M = ((2 ^ n : Nat) : Int)) (hp : p = ((2 ^ lo : Nat) : Int)) (hl : n + lo ≤ 32) (w0 : 0 ≤ w) (w1 : w < 4294967296) (v0 : 0 ≤ v) (v1 : v < M) (hb : v * p < 4294967296) (hz : w / p % M = 0) :
    Go.bits .or .u32 w (IntKind.u32.wrap (IntKind.u32.wrap v * p)) = w + v * p := by
  have hM2 : M ≤ 4294967296 := by
    subst hM
    have : 2 ^ n ≤ 2 ^ 32 := Nat.pow_le_pow_right (by omega) (by omega)
    omega
  have hp0 : 0 ≤ p := by subst hp; exact Int.natCast_nonneg _
  rw [wrap_u32_in v0 (by omega), wrap_u32_in (Int.mul_nonneg v0 hp0) hb]
  subst hM
  exact or_u32 lo n hp hl w0 w1 v0 v1 hz
theorem or_add1 {w v : Int} (n : Nat) (M : Int) (hM : M = ((2 ^ n : Nat) : Int)) (hl : n ≤ 32) (w0 : 0 ≤ w) (w1 : w < 4294967296) (v0 : 0 ≤ v) (v1 : v < M) (hb : v < 4294967296) (hz : w % M = 0) : Go.bits .or .u32 w (IntKind.u32.wrap v) = w + v := by
  have h := or_add 0 n 1 M hM rfl hl w0 w1 v0 v1 (by omega) (by rw [Int.ediv_one]; exact hz)
  rw [Int.mul_one, Int.mul_one, wrap_u32_in v0 hb, wrap_u32_in v0 hb] at h
  rw [wrap_u32_in v0 hb]; exact h
theorem and_add (n : Nat) (m M : Int) (hM : M = ((2 ^ n : Nat) : Int)) (hm : m = ((2 ^ n - 1 : Nat) : Int)) (hn : n ≤ 32) (v : Int) : Go.bits .and .u32 (IntKind.u32.wrap v) m = v % M := by
  subst hm hM
  have b := wrap_u32 v
  rw [and_u32 n (by omega) (by omega) hn, wrap_u32]
  refine Int.emod_emod_of_dvd v ?_
  have : (4294967296 : Int) = ((2 ^ 32 : Nat) : Int) := rfl
  rw [this]
  exact Int.natCast_dvd_natCast.2 (Nat.pow_dvd_pow 2 hn)
theorem or_q {w v : Int} (lo n : Nat) (p M : Int) (hM : M = ((2 ^ n : Nat) : Int)) (hp : p = ((2 ^ lo : Nat) : Int)) (hl : n + lo ≤ 32) (w0 : 0 ≤ w) (w1 : w < 4294967296) (v0 : 0 ≤ v) (v1 : v < M) (hb : v * p < 4294967296) (hz : w / p % M = 0) :
    Go.bits .or .u32 w (IntKind.u32.wrap (v * p)) = w + v * p := by
  have hp0 : 0 ≤ p := by subst hp; exact Int.natCast_nonneg _
  rw [wrap_u32_in (Int.mul_nonneg v0 hp0) hb]
  subst hM
  exact or_u32 lo n hp hl w0 w1 v0 v1 hz
theorem or_q1 {w v : Int} (n : Nat) (M : Int) (hM : M = ((2 ^ n : Nat) : Int)) (hl : n ≤ 32) (w0 : 0 ≤ w) (w1 : w < 4294967296) (v0 : 0 ≤ v) (v1 : v < M) (hz : w % M = 0) : Go.bits .or .u32 w v = w + v := by
  subst hM
  have h := or_u32 (w := w) (x := v) 0 n (p := 1) rfl hl w0 w1 v0 v1 (by rw [Int.ediv_one]; exact hz)
  rw [Int.mul_one] at h; exact h
noncomputable def ERc : Eh := specE 35 chkG noE
theorem ERc_ok : EOk Try.prog ERc := rchkG_ok noE_ok
theorem rword_out (op d n m a c imm : Int) (K : Res → Prop) : evTo Try.prog ERc 40 0 (fun _ => False) [0, 0, 0] (codeOf Try.prog 21) ⟨(funcOf Try.prog 21).ntmps, zipArgs 0 [insV op d n m a c imm], []⟩ (bodyK False Try.prog (funcOf Try.prog 21) fun r _ => K r) =
    Br (chkV op d n m a c imm != 0) (K (.ret (resW 0 (chkV op d n m a c imm)))) False := by kernel_rfl
theorem rword_bad {op d n m a c imm : Int} (h : ¬ okI op d n m a c imm) : CallOk Try.prog 21 [insV op d n m a c imm] [] fun r _ => r = .ret (resW 0 1) := by
  have hc : chkV op d n m a c imm = 1 := if_neg h
  refine CallOk.fnB names (by kernel_rfl) ?_
  refine CodeB.mono (K := bodyK False Try.prog (funcOf Try.prog 21) fun r _ => r = .ret (resW 0 1)) ?_ fun _ _ h => h
  refine evTo_ok ERc_ok names mixed (n := 40) (b := 0) (Z := fun _ => False) [0, 0, 0] _ _ _ (fun st hz => hz.elim) ?_
  have hq := rword_out op d n m a c imm fun r => r = .ret (resW 0 1)
  rw [hq, hc]
  exact rfl
set_option maxRecDepth 1000000 in
theorem rwrun_0 (d n m a c imm : Int) : runI Try.prog ERc 60 21 [insV 0 d n m a c imm] = Br (chkV 0 d n m a c imm != 0) (some (resW 0 (chkV 0 d n m a c imm))) (some (resW (IntKind.u32.wrap imm) 0)) := by kernel_rfl
theorem rsum_0 {d n m a c imm : Int} (h : okP 0 d n m a c imm) : IntKind.u32.wrap imm = wordP 0 d n m a c imm := by
  obtain ⟨hd, hn, hm, ha, hc, hz, hi⟩ : d = 0 ∧ n = 0 ∧ m = 0 ∧ a = 0 ∧ c = 0 ∧ True ∧ (0 ≤ imm ∧ imm < 65536) := h
  show _ = 0 + imm
  rw [wrap_u32_in (by omega) (by omega)]; omega
set_option maxRecDepth 1000000 in
theorem rwrun_1 (d n m a c imm : Int) : runI Try.prog ERc 60 21 [insV 1 d n m a c imm] = Br (chkV 1 d n m a c imm != 0) (some (resW 0 (chkV 1 d n m a c imm))) (some (resW (3573751839) 0)) := by kernel_rfl
theorem rsum_1 {d n m a c imm : Int} (h : okP 1 d n m a c imm) : 3573751839 = wordP 1 d n m a c imm := by
  rfl
set_option maxRecDepth 1000000 in
theorem rwrun_2 (d n m a c imm : Int) : runI Try.prog ERc 60 21 [insV 2 d n m a c imm] = Br (chkV 2 d n m a c imm != 0) (some (resW 0 (chkV 2 d n m a c imm))) (some (resW (Go.bits .or .u32 (Go.bits .or .u32 (Go.bits .or .u32 (3531603968) (IntKind.u32.wrap (IntKind.u32.wrap (m) * 2097152))) (IntKind.u32.wrap (IntKind.u32.wrap (imm) * 32))) (IntKind.u32.wrap (d))) 0)) := by kernel_rfl
theorem rsum_2 {d n m a c imm : Int} (h : okP 2 d n m a c imm) : Go.bits .or .u32 (Go.bits .or .u32 (Go.bits .or .u32 (3531603968) (IntKind.u32.wrap (IntKind.u32.wrap (m) * 2097152))) (IntKind.u32.wrap (IntKind.u32.wrap (imm) * 32))) (IntKind.u32.wrap (d)) = wordP 2 d n m a c imm := by
  obtain ⟨hd, hn, hm, ha, hc, hz, hi⟩ : (0 ≤ d ∧ d ≤ 31) ∧ n = 0 ∧ (0 ≤ m ∧ m ≤ 31) ∧ a = 0 ∧ c = 0 ∧ True ∧ (0 ≤ imm ∧ imm < 65536 ∧ m ≤ 3) := h
  show _ = 3531603968 + m * 2097152 + imm * 32 + d
  rw [or_add 21 2 2097152 4 rfl rfl (by omega) (by omega) (by omega) (by omega) (by omega) (by omega) (by omega)]
  rw [or_add 5 16 32 65536 rfl rfl (by omega) (by omega) (by omega) (by omega) (by omega) (by omega) (by omega)]
  rw [or_add1 5 32 rfl (by omega) (by omega) (by omega) (by omega) (by omega) (by omega) (by omega)]
  try omega
set_option maxRecDepth 1000000 in
theorem rwrun_3 (d n m a c imm : Int) : runI Try.prog ERc 60 21 [insV 3 d n m a c imm] = Br (chkV 3 d n m a c imm != 0) (some (resW 0 (chkV 3 d n m a c imm))) (some (resW (Go.bits .or .u32 (Go.bits .or .u32 (Go.bits .or .u32 (4068474880) (IntKind.u32.wrap (IntKind.u32.wrap (m) * 2097152))) (IntKind.u32.wrap (IntKind.u32.wrap (imm) * 32))) (IntKind.u32.wrap (d))) 0)) := by kernel_rfl
theorem rsum_3 {d n m a c imm : Int} (h : okP 3 d n m a c imm) : Go.bits .or .u32 (Go.bits .or .u32 (Go.bits .or .u32 (4068474880) (IntKind.u32.wrap (IntKind.u32.wrap (m) * 2097152))) (IntKind.u32.wrap (IntKind.u32.wrap (imm) * 32))) (IntKind.u32.wrap (d)) = wordP 3 d n m a c imm := by
  obtain ⟨hd, hn, hm, ha, hc, hz, hi⟩ : (0 ≤ d ∧ d ≤ 31) ∧ n = 0 ∧ (0 ≤ m ∧ m ≤ 31) ∧ a = 0 ∧ c = 0 ∧ True ∧ (0 ≤ imm ∧ imm < 65536 ∧ m ≤ 3) := h
  show _ = 4068474880 + m * 2097152 + imm * 32 + d
  rw [or_add 21 2 2097152 4 rfl rfl (by omega) (by omega) (by omega) (by omega) (by omega) (by omega) (by omega)]
  rw [or_add 5 16 32 65536 rfl rfl (by omega) (by omega) (by omega) (by omega) (by omega) (by omega) (by omega)]
  rw [or_add1 5 32 rfl (by omega) (by omega) (by omega) (by omega) (by omega) (by omega) (by omega)]
  try omega
set_option maxRecDepth 1000000 in
theorem rwrun_4 (d n m a c imm : Int) : runI Try.prog ERc 60 21 [insV 4 d n m a c imm] = Br (chkV 4 d n m a c imm != 0) (some (resW 0 (chkV 4 d n m a c imm))) (some (resW (Go.bits .or .u32 (Go.bits .or .u32 (Go.bits .or .u32 (2432696320) (IntKind.u32.wrap (IntKind.u32.wrap (imm) * 1024))) (IntKind.u32.wrap (IntKind.u32.wrap (n) * 32))) (IntKind.u32.wrap (d))) 0)) := by kernel_rfl
theorem rsum_4 {d n m a c imm : Int} (h : okP 4 d n m a c imm) : Go.bits .or .u32 (Go.bits .or .u32 (Go.bits .or .u32 (2432696320) (IntKind.u32.wrap (IntKind.u32.wrap (imm) * 1024))) (IntKind.u32.wrap (IntKind.u32.wrap (n) * 32))) (IntKind.u32.wrap (d)) = wordP 4 d n m a c imm := by
  obtain ⟨hd, hn, hm, ha, hc, hz, hi⟩ : (0 ≤ d ∧ d ≤ 31) ∧ (0 ≤ n ∧ n ≤ 31) ∧ m = 0 ∧ a = 0 ∧ c = 0 ∧ True ∧ (0 ≤ imm ∧ imm < 4096) := h
  show _ = 2432696320 + n * 32 + imm * 1024 + d
  rw [or_add 10 12 1024 4096 rfl rfl (by omega) (by omega) (by omega) (by omega) (by omega) (by omega) (by omega)]
  rw [or_add 5 5 32 32 rfl rfl (by omega) (by omega) (by omega) (by omega) (by omega) (by omega) (by omega)]
  rw [or_add1 5 32 rfl (by omega) (by omega) (by omega) (by omega) (by omega) (by omega) (by omega)]
  try omega
set_option maxRecDepth 1000000 in
theorem rwrun_5 (d n m a c imm : Int) : runI Try.prog ERc 60 21 [insV 5 d n m a c imm] = Br (chkV 5 d n m a c imm != 0) (some (resW 0 (chkV 5 d n m a c imm))) (some (resW (Go.bits .or .u32 (Go.bits .or .u32 (Go.bits .or .u32 (3506438144) (IntKind.u32.wrap (IntKind.u32.wrap (imm) * 1024))) (IntKind.u32.wrap (IntKind.u32.wrap (n) * 32))) (IntKind.u32.wrap (d))) 0)) := by kernel_rfl
theorem rsum_5 {d n m a c imm : Int} (h : okP 5 d n m a c imm) : Go.bits .or .u32 (Go.bits .or .u32 (Go.bits .or .u32 (3506438144) (IntKind.u32.wrap (IntKind.u32.wrap (imm) * 1024))) (IntKind.u32.wrap (IntKind.u32.wrap (n) * 32))) (IntKind.u32.wrap (d)) = wordP 5 d n m a c imm := by
  obtain ⟨hd, hn, hm, ha, hc, hz, hi⟩ : (0 ≤ d ∧ d ≤ 31) ∧ (0 ≤ n ∧ n ≤ 31) ∧ m = 0 ∧ a = 0 ∧ c = 0 ∧ True ∧ (0 ≤ imm ∧ imm < 4096) := h
  show _ = 3506438144 + n * 32 + imm * 1024 + d
  rw [or_add 10 12 1024 4096 rfl rfl (by omega) (by omega) (by omega) (by omega) (by omega) (by omega) (by omega)]
  rw [or_add 5 5 32 32 rfl rfl (by omega) (by omega) (by omega) (by omega) (by omega) (by omega) (by omega)]
  rw [or_add1 5 32 rfl (by omega) (by omega) (by omega) (by omega) (by omega) (by omega) (by omega)]
  try omega
set_option maxRecDepth 1000000 in
theorem rwrun_6 (d n m a c imm : Int) : runI Try.prog ERc 60 21 [insV 6 d n m a c imm] = Br (chkV 6 d n m a c imm != 0) (some (resW 0 (chkV 6 d n m a c imm))) (some (resW (Go.bits .or .u32 (Go.bits .or .u32 (Go.bits .or .u32 (4043309056) (IntKind.u32.wrap (IntKind.u32.wrap (imm) * 1024))) (IntKind.u32.wrap (IntKind.u32.wrap (n) * 32))) (IntKind.u32.wrap (d))) 0)) := by kernel_rfl
theorem rsum_6 {d n m a c imm : Int} (h : okP 6 d n m a c imm) : Go.bits .or .u32 (Go.bits .or .u32 (Go.bits .or .u32 (4043309056) (IntKind.u32.wrap (IntKind.u32.wrap (imm) * 1024))) (IntKind.u32.wrap (IntKind.u32.wrap (n) * 32))) (IntKind.u32.wrap (d)) = wordP 6 d n m a c imm := by
  obtain ⟨hd, hn, hm, ha, hc, hz, hi⟩ : (0 ≤ d ∧ d ≤ 31) ∧ (0 ≤ n ∧ n ≤ 31) ∧ m = 0 ∧ a = 0 ∧ c = 0 ∧ True ∧ (0 ≤ imm ∧ imm < 4096) := h
  show _ = 4043309056 + n * 32 + imm * 1024 + d
  rw [or_add 10 12 1024 4096 rfl rfl (by omega) (by omega) (by omega) (by omega) (by omega) (by omega) (by omega)]
  rw [or_add 5 5 32 32 rfl rfl (by omega) (by omega) (by omega) (by omega) (by omega) (by omega) (by omega)]
  rw [or_add1 5 32 rfl (by omega) (by omega) (by omega) (by omega) (by omega) (by omega) (by omega)]
  try omega
set_option maxRecDepth 1000000 in
theorem rwrun_7 (d n m a c imm : Int) : runI Try.prog ERc 60 21 [insV 7 d n m a c imm] = Br (chkV 7 d n m a c imm != 0) (some (resW 0 (chkV 7 d n m a c imm))) (some (resW (Go.bits .or .u32 (Go.bits .or .u32 (Go.bits .or .u32 (2332033024) (IntKind.u32.wrap (IntKind.u32.wrap (m) * 65536))) (IntKind.u32.wrap (IntKind.u32.wrap (n) * 32))) (IntKind.u32.wrap (d))) 0)) := by kernel_rfl
theorem rsum_7 {d n m a c imm : Int} (h : okP 7 d n m a c imm) : Go.bits .or .u32 (Go.bits .or .u32 (Go.bits .or .u32 (2332033024) (IntKind.u32.wrap (IntKind.u32.wrap (m) * 65536))) (IntKind.u32.wrap (IntKind.u32.wrap (n) * 32))) (IntKind.u32.wrap (d)) = wordP 7 d n m a c imm := by
  obtain ⟨hd, hn, hm, ha, hc, hz, hi⟩ : (0 ≤ d ∧ d ≤ 31) ∧ (0 ≤ n ∧ n ≤ 31) ∧ (0 ≤ m ∧ m ≤ 31) ∧ a = 0 ∧ c = 0 ∧ imm = 0 ∧ (True) := h
  show _ = 2332033024 + n * 32 + m * 65536 + d
  rw [or_add 16 5 65536 32 rfl rfl (by omega) (by omega) (by omega) (by omega) (by omega) (by omega) (by omega)]
  rw [or_add 5 5 32 32 rfl rfl (by omega) (by omega) (by omega) (by omega) (by omega) (by omega) (by omega)]
  rw [or_add1 5 32 rfl (by omega) (by omega) (by omega) (by omega) (by omega) (by omega) (by omega)]
  try omega
set_option maxRecDepth 1000000 in
theorem rwrun_8 (d n m a c imm : Int) : runI Try.prog ERc 60 21 [insV 8 d n m a c imm] = Br (chkV 8 d n m a c imm != 0) (some (resW 0 (chkV 8 d n m a c imm))) (some (resW (Go.bits .or .u32 (Go.bits .or .u32 (Go.bits .or .u32 (3405774848) (IntKind.u32.wrap (IntKind.u32.wrap (m) * 65536))) (IntKind.u32.wrap (IntKind.u32.wrap (n) * 32))) (IntKind.u32.wrap (d))) 0)) := by kernel_rfl
theorem rsum_8 {d n m a c imm : Int} (h : okP 8 d n m a c imm) : Go.bits .or .u32 (Go.bits .or .u32 (Go.bits .or .u32 (3405774848) (IntKind.u32.wrap (IntKind.u32.wrap (m) * 65536))) (IntKind.u32.wrap (IntKind.u32.wrap (n) * 32))) (IntKind.u32.wrap (d)) = wordP 8 d n m a c imm := by
  obtain ⟨hd, hn, hm, ha, hc, hz, hi⟩ : (0 ≤ d ∧ d ≤ 31) ∧ (0 ≤ n ∧ n ≤ 31) ∧ (0 ≤ m ∧ m ≤ 31) ∧ a = 0 ∧ c = 0 ∧ imm = 0 ∧ (True) := h
  show _ = 3405774848 + n * 32 + m * 65536 + d
  rw [or_add 16 5 65536 32 rfl rfl (by omega) (by omega) (by omega) (by omega) (by omega) (by omega) (by omega)]
  rw [or_add 5 5 32 32 rfl rfl (by omega) (by omega) (by omega) (by omega) (by omega) (by omega) (by omega)]
  rw [or_add1 5 32 rfl (by omega) (by omega) (by omega) (by omega) (by omega) (by omega) (by omega)]
  try omega
set_option maxRecDepth 1000000 in
theorem rwrun_9 (d n m a c imm : Int) : runI Try.prog ERc 60 21 [insV 9 d n m a c imm] = Br (chkV 9 d n m a c imm != 0) (some (resW 0 (chkV 9 d n m a c imm))) (some (resW (Go.bits .or .u32 (Go.bits .or .u32 (Go.bits .or .u32 (3942645760) (IntKind.u32.wrap (IntKind.u32.wrap (m) * 65536))) (IntKind.u32.wrap (IntKind.u32.wrap (n) * 32))) (IntKind.u32.wrap (d))) 0)) := by kernel_rfl
theorem rsum_9 {d n m a c imm : Int} (h : okP 9 d n m a c imm) : Go.bits .or .u32 (Go.bits .or .u32 (Go.bits .or .u32 (3942645760) (IntKind.u32.wrap (IntKind.u32.wrap (m) * 65536))) (IntKind.u32.wrap (IntKind.u32.wrap (n) * 32))) (IntKind.u32.wrap (d)) = wordP 9 d n m a c imm := by
  obtain ⟨hd, hn, hm, ha, hc, hz, hi⟩ : (0 ≤ d ∧ d ≤ 31) ∧ (0 ≤ n ∧ n ≤ 31) ∧ (0 ≤ m ∧ m ≤ 31) ∧ a = 0 ∧ c = 0 ∧ imm = 0 ∧ (True) := h
  show _ = 3942645760 + n * 32 + m * 65536 + d
  rw [or_add 16 5 65536 32 rfl rfl (by omega) (by omega) (by omega) (by omega) (by omega) (by omega) (by omega)]
  rw [or_add 5 5 32 32 rfl rfl (by omega) (by omega) (by omega) (by omega) (by omega) (by omega) (by omega)]
  rw [or_add1 5 32 rfl (by omega) (by omega) (by omega) (by omega) (by omega) (by omega) (by omega)]
  try omega
set_option maxRecDepth 1000000 in
theorem rwrun_10 (d n m a c imm : Int) : runI Try.prog ERc 60 21 [insV 10 d n m a c imm] = Br (chkV 10 d n m a c imm != 0) (some (resW 0 (chkV 10 d n m a c imm))) (some (resW (Go.bits .or .u32 (Go.bits .or .u32 (Go.bits .or .u32 (2315255808) (IntKind.u32.wrap (IntKind.u32.wrap (m) * 65536))) (IntKind.u32.wrap (IntKind.u32.wrap (n) * 32))) (IntKind.u32.wrap (d))) 0)) := by kernel_rfl
theorem rsum_10 {d n m a c imm : Int} (h : okP 10 d n m a c imm) : Go.bits .or .u32 (Go.bits .or .u32 (Go.bits .or .u32 (2315255808) (IntKind.u32.wrap (IntKind.u32.wrap (m) * 65536))) (IntKind.u32.wrap (IntKind.u32.wrap (n) * 32))) (IntKind.u32.wrap (d)) = wordP 10 d n m a c imm := by
  obtain ⟨hd, hn, hm, ha, hc, hz, hi⟩ : (0 ≤ d ∧ d ≤ 31) ∧ (0 ≤ n ∧ n ≤ 31) ∧ (0 ≤ m ∧ m ≤ 31) ∧ a = 0 ∧ c = 0 ∧ imm = 0 ∧ (True) := h
  show _ = 2315255808 + n * 32 + m * 65536 + d
  rw [or_add 16 5 65536 32 rfl rfl (by omega) (by omega) (by omega) (by omega) (by omega) (by omega) (by omega)]
  rw [or_add 5 5 32 32 rfl rfl (by omega) (by omega) (by omega) (by omega) (by omega) (by omega) (by omega)]
  rw [or_add1 5 32 rfl (by omega) (by omega) (by omega) (by omega) (by omega) (by omega) (by omega)]
  try omega
set_option maxRecDepth 1000000 in
theorem rwrun_11 (d n m a c imm : Int) : runI Try.prog ERc 60 21 [insV 11 d n m a c imm] = Br (chkV 11 d n m a c imm != 0) (some (resW 0 (chkV 11 d n m a c imm))) (some (resW (Go.bits .or .u32 (Go.bits .or .u32 (Go.bits .or .u32 (2852126720) (IntKind.u32.wrap (IntKind.u32.wrap (m) * 65536))) (IntKind.u32.wrap (IntKind.u32.wrap (n) * 32))) (IntKind.u32.wrap (d))) 0)) := by kernel_rfl
theorem rsum_11 {d n m a c imm : Int} (h : okP 11 d n m a c imm) : Go.bits .or .u32 (Go.bits .or .u32 (Go.bits .or .u32 (2852126720) (IntKind.u32.wrap (IntKind.u32.wrap (m) * 65536))) (IntKind.u32.wrap (IntKind.u32.wrap (n) * 32))) (IntKind.u32.wrap (d)) = wordP 11 d n m a c imm := by
  obtain ⟨hd, hn, hm, ha, hc, hz, hi⟩ : (0 ≤ d ∧ d ≤ 31) ∧ (0 ≤ n ∧ n ≤ 31) ∧ (0 ≤ m ∧ m ≤ 31) ∧ a = 0 ∧ c = 0 ∧ imm = 0 ∧ (True) := h
  show _ = 2852126720 + n * 32 + m * 65536 + d
  rw [or_add 16 5 65536 32 rfl rfl (by omega) (by omega) (by omega) (by omega) (by omega) (by omega) (by omega)]
  rw [or_add 5 5 32 32 rfl rfl (by omega) (by omega) (by omega) (by omega) (by omega) (by omega) (by omega)]
  rw [or_add1 5 32 rfl (by omega) (by omega) (by omega) (by omega) (by omega) (by omega) (by omega)]
  try omega
set_option maxRecDepth 1000000 in
theorem rwrun_12 (d n m a c imm : Int) : runI Try.prog ERc 60 21 [insV 12 d n m a c imm] = Br (chkV 12 d n m a c imm != 0) (some (resW 0 (chkV 12 d n m a c imm))) (some (resW (Go.bits .or .u32 (Go.bits .or .u32 (Go.bits .or .u32 (3388997632) (IntKind.u32.wrap (IntKind.u32.wrap (m) * 65536))) (IntKind.u32.wrap (IntKind.u32.wrap (n) * 32))) (IntKind.u32.wrap (d))) 0)) := by kernel_rfl
theorem rsum_12 {d n m a c imm : Int} (h : okP 12 d n m a c imm) : Go.bits .or .u32 (Go.bits .or .u32 (Go.bits .or .u32 (3388997632) (IntKind.u32.wrap (IntKind.u32.wrap (m) * 65536))) (IntKind.u32.wrap (IntKind.u32.wrap (n) * 32))) (IntKind.u32.wrap (d)) = wordP 12 d n m a c imm := by
  obtain ⟨hd, hn, hm, ha, hc, hz, hi⟩ : (0 ≤ d ∧ d ≤ 31) ∧ (0 ≤ n ∧ n ≤ 31) ∧ (0 ≤ m ∧ m ≤ 31) ∧ a = 0 ∧ c = 0 ∧ imm = 0 ∧ (True) := h
  show _ = 3388997632 + n * 32 + m * 65536 + d
  rw [or_add 16 5 65536 32 rfl rfl (by omega) (by omega) (by omega) (by omega) (by omega) (by omega) (by omega)]
  rw [or_add 5 5 32 32 rfl rfl (by omega) (by omega) (by omega) (by omega) (by omega) (by omega) (by omega)]
  rw [or_add1 5 32 rfl (by omega) (by omega) (by omega) (by omega) (by omega) (by omega) (by omega)]
  try omega
set_option maxRecDepth 1000000 in
theorem rwrun_13 (d n m a c imm : Int) : runI Try.prog ERc 60 21 [insV 13 d n m a c imm] = Br (chkV 13 d n m a c imm != 0) (some (resW 0 (chkV 13 d n m a c imm))) (some (resW (Go.bits .or .u32 (Go.bits .or .u32 (Go.bits .or .u32 (Go.bits .or .u32 (2600468480) (IntKind.u32.wrap (IntKind.u32.wrap (m) * 65536))) (IntKind.u32.wrap (IntKind.u32.wrap (a) * 1024))) (IntKind.u32.wrap (IntKind.u32.wrap (n) * 32))) (IntKind.u32.wrap (d))) 0)) := by kernel_rfl
theorem rsum_13 {d n m a c imm : Int} (h : okP 13 d n m a c imm) : Go.bits .or .u32 (Go.bits .or .u32 (Go.bits .or .u32 (Go.bits .or .u32 (2600468480) (IntKind.u32.wrap (IntKind.u32.wrap (m) * 65536))) (IntKind.u32.wrap (IntKind.u32.wrap (a) * 1024))) (IntKind.u32.wrap (IntKind.u32.wrap (n) * 32))) (IntKind.u32.wrap (d)) = wordP 13 d n m a c imm := by
  obtain ⟨hd, hn, hm, ha, hc, hz, hi⟩ : (0 ≤ d ∧ d ≤ 31) ∧ (0 ≤ n ∧ n ≤ 31) ∧ (0 ≤ m ∧ m ≤ 31) ∧ (0 ≤ a ∧ a ≤ 31) ∧ c = 0 ∧ imm = 0 ∧ (True) := h
  show _ = 2600468480 + n * 32 + m * 65536 + a * 1024 + d
  rw [or_add 16 5 65536 32 rfl rfl (by omega) (by omega) (by omega) (by omega) (by omega) (by omega) (by omega)]
  rw [or_add 10 5 1024 32 rfl rfl (by omega) (by omega) (by omega) (by omega) (by omega) (by omega) (by omega)]
  rw [or_add 5 5 32 32 rfl rfl (by omega) (by omega) (by omega) (by omega) (by omega) (by omega) (by omega)]
  rw [or_add1 5 32 rfl (by omega) (by omega) (by omega) (by omega) (by omega) (by omega) (by omega)]
  try omega
set_option maxRecDepth 1000000 in
theorem rwrun_14 (d n m a c imm : Int) : runI Try.prog ERc 60 21 [insV 14 d n m a c imm] = Br (chkV 14 d n m a c imm != 0) (some (resW 0 (chkV 14 d n m a c imm))) (some (resW (Go.bits .or .u32 (Go.bits .or .u32 (Go.bits .or .u32 (Go.bits .or .u32 (2600501248) (IntKind.u32.wrap (IntKind.u32.wrap (m) * 65536))) (IntKind.u32.wrap (IntKind.u32.wrap (a) * 1024))) (IntKind.u32.wrap (IntKind.u32.wrap (n) * 32))) (IntKind.u32.wrap (d))) 0)) := by kernel_rfl
theorem rsum_14 {d n m a c imm : Int} (h : okP 14 d n m a c imm) : Go.bits .or .u32 (Go.bits .or .u32 (Go.bits .or .u32 (Go.bits .or .u32 (2600501248) (IntKind.u32.wrap (IntKind.u32.wrap (m) * 65536))) (IntKind.u32.wrap (IntKind.u32.wrap (a) * 1024))) (IntKind.u32.wrap (IntKind.u32.wrap (n) * 32))) (IntKind.u32.wrap (d)) = wordP 14 d n m a c imm := by
  obtain ⟨hd, hn, hm, ha, hc, hz, hi⟩ : (0 ≤ d ∧ d ≤ 31) ∧ (0 ≤ n ∧ n ≤ 31) ∧ (0 ≤ m ∧ m ≤ 31) ∧ (0 ≤ a ∧ a ≤ 31) ∧ c = 0 ∧ imm = 0 ∧ (True) := h
  show _ = 2600501248 + n * 32 + m * 65536 + a * 1024 + d
  rw [or_add 16 5 65536 32 rfl rfl (by omega) (by omega) (by omega) (by omega) (by omega) (by omega) (by omega)]
  rw [or_add 10 5 1024 32 rfl rfl (by omega) (by omega) (by omega) (by omega) (by omega) (by omega) (by omega)]
  rw [or_add 5 5 32 32 rfl rfl (by omega) (by omega) (by omega) (by omega) (by omega) (by omega) (by omega)]
  rw [or_add1 5 32 rfl (by omega) (by omega) (by omega) (by omega) (by omega) (by omega) (by omega)]
  try omega
set_option maxRecDepth 1000000 in
theorem rwrun_15 (d n m a c imm : Int) : runI Try.prog ERc 60 21 [insV 15 d n m a c imm] = Br (chkV 15 d n m a c imm != 0) (some (resW 0 (chkV 15 d n m a c imm))) (some (resW (Go.bits .or .u32 (Go.bits .or .u32 (Go.bits .or .u32 (2596277248) (IntKind.u32.wrap (IntKind.u32.wrap (m) * 65536))) (IntKind.u32.wrap (IntKind.u32.wrap (n) * 32))) (IntKind.u32.wrap (d))) 0)) := by kernel_rfl
theorem rsum_15 {d n m a c imm : Int} (h : okP 15 d n m a c imm) : Go.bits .or .u32 (Go.bits .or .u32 (Go.bits .or .u32 (2596277248) (IntKind.u32.wrap (IntKind.u32.wrap (m) * 65536))) (IntKind.u32.wrap (IntKind.u32.wrap (n) * 32))) (IntKind.u32.wrap (d)) = wordP 15 d n m a c imm := by
  obtain ⟨hd, hn, hm, ha, hc, hz, hi⟩ : (0 ≤ d ∧ d ≤ 31) ∧ (0 ≤ n ∧ n ≤ 31) ∧ (0 ≤ m ∧ m ≤ 31) ∧ a = 0 ∧ c = 0 ∧ imm = 0 ∧ (True) := h
  show _ = 2596277248 + n * 32 + m * 65536 + d
  rw [or_add 16 5 65536 32 rfl rfl (by omega) (by omega) (by omega) (by omega) (by omega) (by omega) (by omega)]
  rw [or_add 5 5 32 32 rfl rfl (by omega) (by omega) (by omega) (by omega) (by omega) (by omega) (by omega)]
  rw [or_add1 5 32 rfl (by omega) (by omega) (by omega) (by omega) (by omega) (by omega) (by omega)]
  try omega
set_option maxRecDepth 1000000 in
theorem rwrun_16 (d n m a c imm : Int) : runI Try.prog ERc 60 21 [insV 16 d n m a c imm] = Br (chkV 16 d n m a c imm != 0) (some (resW 0 (chkV 16 d n m a c imm))) (some (resW (Go.bits .or .u32 (Go.bits .or .u32 (Go.bits .or .u32 (2596282368) (IntKind.u32.wrap (IntKind.u32.wrap (m) * 65536))) (IntKind.u32.wrap (IntKind.u32.wrap (n) * 32))) (IntKind.u32.wrap (d))) 0)) := by kernel_rfl
theorem rsum_16 {d n m a c imm : Int} (h : okP 16 d n m a c imm) : Go.bits .or .u32 (Go.bits .or .u32 (Go.bits .or .u32 (2596282368) (IntKind.u32.wrap (IntKind.u32.wrap (m) * 65536))) (IntKind.u32.wrap (IntKind.u32.wrap (n) * 32))) (IntKind.u32.wrap (d)) = wordP 16 d n m a c imm := by
  obtain ⟨hd, hn, hm, ha, hc, hz, hi⟩ : (0 ≤ d ∧ d ≤ 31) ∧ (0 ≤ n ∧ n ≤ 31) ∧ (0 ≤ m ∧ m ≤ 31) ∧ a = 0 ∧ c = 0 ∧ imm = 0 ∧ (True) := h
  show _ = 2596282368 + n * 32 + m * 65536 + d
  rw [or_add 16 5 65536 32 rfl rfl (by omega) (by omega) (by omega) (by omega) (by omega) (by omega) (by omega)]
  rw [or_add 5 5 32 32 rfl rfl (by omega) (by omega) (by omega) (by omega) (by omega) (by omega) (by omega)]
  rw [or_add1 5 32 rfl (by omega) (by omega) (by omega) (by omega) (by omega) (by omega) (by omega)]
  try omega
set_option maxRecDepth 1000000 in
theorem rwrun_17 (d n m a c imm : Int) : runI Try.prog ERc 60 21 [insV 17 d n m a c imm] = Br (chkV 17 d n m a c imm != 0) (some (resW 0 (chkV 17 d n m a c imm))) (some (resW (Go.bits .or .u32 (Go.bits .or .u32 (Go.bits .or .u32 (2596283392) (IntKind.u32.wrap (IntKind.u32.wrap (m) * 65536))) (IntKind.u32.wrap (IntKind.u32.wrap (n) * 32))) (IntKind.u32.wrap (d))) 0)) := by kernel_rfl
theorem rsum_17 {d n m a c imm : Int} (h : okP 17 d n m a c imm) : Go.bits .or .u32 (Go.bits .or .u32 (Go.bits .or .u32 (2596283392) (IntKind.u32.wrap (IntKind.u32.wrap (m) * 65536))) (IntKind.u32.wrap (IntKind.u32.wrap (n) * 32))) (IntKind.u32.wrap (d)) = wordP 17 d n m a c imm := by
  obtain ⟨hd, hn, hm, ha, hc, hz, hi⟩ : (0 ≤ d ∧ d ≤ 31) ∧ (0 ≤ n ∧ n ≤ 31) ∧ (0 ≤ m ∧ m ≤ 31) ∧ a = 0 ∧ c = 0 ∧ imm = 0 ∧ (True) := h
  show _ = 2596283392 + n * 32 + m * 65536 + d
  rw [or_add 16 5 65536 32 rfl rfl (by omega) (by omega) (by omega) (by omega) (by omega) (by omega) (by omega)]
  rw [or_add 5 5 32 32 rfl rfl (by omega) (by omega) (by omega) (by omega) (by omega) (by omega) (by omega)]
  rw [or_add1 5 32 rfl (by omega) (by omega) (by omega) (by omega) (by omega) (by omega) (by omega)]
  try omega
set_option maxRecDepth 1000000 in
theorem rwrun_18 (d n m a c imm : Int) : runI Try.prog ERc 60 21 [insV 18 d n m a c imm] = Br (chkV 18 d n m a c imm != 0) (some (resW 0 (chkV 18 d n m a c imm))) (some (resW (Go.bits .or .u32 (Go.bits .or .u32 (Go.bits .or .u32 (2596284416) (IntKind.u32.wrap (IntKind.u32.wrap (m) * 65536))) (IntKind.u32.wrap (IntKind.u32.wrap (n) * 32))) (IntKind.u32.wrap (d))) 0)) := by kernel_rfl
theorem rsum_18 {d n m a c imm : Int} (h : okP 18 d n m a c imm) : Go.bits .or .u32 (Go.bits .or .u32 (Go.bits .or .u32 (2596284416) (IntKind.u32.wrap (IntKind.u32.wrap (m) * 65536))) (IntKind.u32.wrap (IntKind.u32.wrap (n) * 32))) (IntKind.u32.wrap (d)) = wordP 18 d n m a c imm := by
  obtain ⟨hd, hn, hm, ha, hc, hz, hi⟩ : (0 ≤ d ∧ d ≤ 31) ∧ (0 ≤ n ∧ n ≤ 31) ∧ (0 ≤ m ∧ m ≤ 31) ∧ a = 0 ∧ c = 0 ∧ imm = 0 ∧ (True) := h
  show _ = 2596284416 + n * 32 + m * 65536 + d
  rw [or_add 16 5 65536 32 rfl rfl (by omega) (by omega) (by omega) (by omega) (by omega) (by omega) (by omega)]
  rw [or_add 5 5 32 32 rfl rfl (by omega) (by omega) (by omega) (by omega) (by omega) (by omega) (by omega)]
  rw [or_add1 5 32 rfl (by omega) (by omega) (by omega) (by omega) (by omega) (by omega) (by omega)]
  try omega
set_option maxRecDepth 1000000 in
theorem rwrun_19 (d n m a c imm : Int) : runI Try.prog ERc 60 21 [insV 19 d n m a c imm] = Br (chkV 19 d n m a c imm != 0) (some (resW 0 (chkV 19 d n m a c imm))) (some (resW (Go.bits .or .u32 (Go.bits .or .u32 (Go.bits .or .u32 (Go.bits .or .u32 (2592080896) (IntKind.u32.wrap (IntKind.u32.wrap (m) * 65536))) (IntKind.u32.wrap (IntKind.u32.wrap (c) * 4096))) (IntKind.u32.wrap (IntKind.u32.wrap (n) * 32))) (IntKind.u32.wrap (d))) 0)) := by kernel_rfl
theorem rsum_19 {d n m a c imm : Int} (h : okP 19 d n m a c imm) : Go.bits .or .u32 (Go.bits .or .u32 (Go.bits .or .u32 (Go.bits .or .u32 (2592080896) (IntKind.u32.wrap (IntKind.u32.wrap (m) * 65536))) (IntKind.u32.wrap (IntKind.u32.wrap (c) * 4096))) (IntKind.u32.wrap (IntKind.u32.wrap (n) * 32))) (IntKind.u32.wrap (d)) = wordP 19 d n m a c imm := by
  obtain ⟨hd, hn, hm, ha, hc, hz, hi⟩ : (0 ≤ d ∧ d ≤ 31) ∧ (0 ≤ n ∧ n ≤ 31) ∧ (0 ≤ m ∧ m ≤ 31) ∧ a = 0 ∧ (0 ≤ c ∧ c ≤ 15) ∧ imm = 0 ∧ (True) := h
  show _ = 2592080896 + n * 32 + c * 4096 + m * 65536 + d
  rw [or_add 16 5 65536 32 rfl rfl (by omega) (by omega) (by omega) (by omega) (by omega) (by omega) (by omega)]
  rw [or_add 12 4 4096 16 rfl rfl (by omega) (by omega) (by omega) (by omega) (by omega) (by omega) (by omega)]
  rw [or_add 5 5 32 32 rfl rfl (by omega) (by omega) (by omega) (by omega) (by omega) (by omega) (by omega)]
  rw [or_add1 5 32 rfl (by omega) (by omega) (by omega) (by omega) (by omega) (by omega) (by omega)]
  try omega
set_option maxRecDepth 1000000 in
theorem rwrun_20 (d n m a c imm : Int) : runI Try.prog ERc 60 21 [insV 20 d n m a c imm] = Br (chkV 20 d n m a c imm != 0) (some (resW 0 (chkV 20 d n m a c imm))) (some (resW (Go.bits .or .u32 (335544320) (Go.bits .and .u32 (IntKind.u32.wrap (IntKind.i64.wrap (imm.tdiv 4))) 67108863)) 0)) := by kernel_rfl
theorem rsum_20 {d n m a c imm : Int} (h : okP 20 d n m a c imm) : Go.bits .or .u32 (335544320) (Go.bits .and .u32 (IntKind.u32.wrap (IntKind.i64.wrap (imm.tdiv 4))) 67108863) = wordP 20 d n m a c imm := by
  obtain ⟨hd, hn, hm, ha, hc, hz, hi⟩ : d = 0 ∧ n = 0 ∧ m = 0 ∧ a = 0 ∧ c = 0 ∧ True ∧ (imm % 4 = 0 ∧ -134217728 ≤ imm ∧ imm < 134217728) := h
  show _ = 335544320 + ((imm / 4) % 67108864)
  rw [tdiv4 hi.1 (by omega) (by omega), and_add 26 67108863 67108864 rfl rfl (by omega)]
  rw [or_q1 26 67108864 rfl (by omega) (by omega) (by omega) (by omega) (by omega) (by omega)]
  try omega
set_option maxRecDepth 1000000 in
theorem rwrun_21 (d n m a c imm : Int) : runI Try.prog ERc 60 21 [insV 21 d n m a c imm] = Br (chkV 21 d n m a c imm != 0) (some (resW 0 (chkV 21 d n m a c imm))) (some (resW (Go.bits .or .u32 (Go.bits .or .u32 (1409286144) (IntKind.u32.wrap (Go.bits .and .u32 (IntKind.u32.wrap (IntKind.i64.wrap (imm.tdiv 4))) 524287 * 32))) (IntKind.u32.wrap (c))) 0)) := by kernel_rfl
theorem rsum_21 {d n m a c imm : Int} (h : okP 21 d n m a c imm) : Go.bits .or .u32 (Go.bits .or .u32 (1409286144) (IntKind.u32.wrap (Go.bits .and .u32 (IntKind.u32.wrap (IntKind.i64.wrap (imm.tdiv 4))) 524287 * 32))) (IntKind.u32.wrap (c)) = wordP 21 d n m a c imm := by
  obtain ⟨hd, hn, hm, ha, hc, hz, hi⟩ : d = 0 ∧ n = 0 ∧ m = 0 ∧ a = 0 ∧ (0 ≤ c ∧ c ≤ 15) ∧ True ∧ (imm % 4 = 0 ∧ -1048576 ≤ imm ∧ imm < 1048576 ∧ c ≤ 13) := h
  show _ = 1409286144 + ((imm / 4) % 524288) * 32 + c
  rw [tdiv4 hi.1 (by omega) (by omega), and_add 19 524287 524288 rfl rfl (by omega)]
  rw [or_q 5 19 32 524288 rfl rfl (by omega) (by omega) (by omega) (by omega) (by omega) (by omega) (by omega)]
  rw [or_add1 4 16 rfl (by omega) (by omega) (by omega) (by omega) (by omega) (by omega) (by omega)]
  try omega
set_option maxRecDepth 1000000 in
theorem rwrun_22 (d n m a c imm : Int) : runI Try.prog ERc 60 21 [insV 22 d n m a c imm] = Br (chkV 22 d n m a c imm != 0) (some (resW 0 (chkV 22 d n m a c imm))) (some (resW (Go.bits .or .u32 (Go.bits .or .u32 (3019898880) (IntKind.u32.wrap (Go.bits .and .u32 (IntKind.u32.wrap (IntKind.i64.wrap (imm.tdiv 4))) 524287 * 32))) (IntKind.u32.wrap (d))) 0)) := by kernel_rfl
theorem rsum_22 {d n m a c imm : Int} (h : okP 22 d n m a c imm) : Go.bits .or .u32 (Go.bits .or .u32 (3019898880) (IntKind.u32.wrap (Go.bits .and .u32 (IntKind.u32.wrap (IntKind.i64.wrap (imm.tdiv 4))) 524287 * 32))) (IntKind.u32.wrap (d)) = wordP 22 d n m a c imm := by
  obtain ⟨hd, hn, hm, ha, hc, hz, hi⟩ : (0 ≤ d ∧ d ≤ 31) ∧ n = 0 ∧ m = 0 ∧ a = 0 ∧ c = 0 ∧ True ∧ (imm % 4 = 0 ∧ -1048576 ≤ imm ∧ imm < 1048576) := h
  show _ = 3019898880 + ((imm / 4) % 524288) * 32 + d
  rw [tdiv4 hi.1 (by omega) (by omega), and_add 19 524287 524288 rfl rfl (by omega)]
  rw [or_q 5 19 32 524288 rfl rfl (by omega) (by omega) (by omega) (by omega) (by omega) (by omega) (by omega)]
  rw [or_add1 5 32 rfl (by omega) (by omega) (by omega) (by omega) (by omega) (by omega) (by omega)]
  try omega
set_option maxRecDepth 1000000 in
theorem rwrun_23 (d n m a c imm : Int) : runI Try.prog ERc 60 21 [insV 23 d n m a c imm] = Br (chkV 23 d n m a c imm != 0) (some (resW 0 (chkV 23 d n m a c imm))) (some (resW (Go.bits .or .u32 (Go.bits .or .u32 (3036676096) (IntKind.u32.wrap (Go.bits .and .u32 (IntKind.u32.wrap (IntKind.i64.wrap (imm.tdiv 4))) 524287 * 32))) (IntKind.u32.wrap (d))) 0)) := by kernel_rfl
theorem rsum_23 {d n m a c imm : Int} (h : okP 23 d n m a c imm) : Go.bits .or .u32 (Go.bits .or .u32 (3036676096) (IntKind.u32.wrap (Go.bits .and .u32 (IntKind.u32.wrap (IntKind.i64.wrap (imm.tdiv 4))) 524287 * 32))) (IntKind.u32.wrap (d)) = wordP 23 d n m a c imm := by
  obtain ⟨hd, hn, hm, ha, hc, hz, hi⟩ : (0 ≤ d ∧ d ≤ 31) ∧ n = 0 ∧ m = 0 ∧ a = 0 ∧ c = 0 ∧ True ∧ (imm % 4 = 0 ∧ -1048576 ≤ imm ∧ imm < 1048576) := h
  show _ = 3036676096 + ((imm / 4) % 524288) * 32 + d
  rw [tdiv4 hi.1 (by omega) (by omega), and_add 19 524287 524288 rfl rfl (by omega)]
  rw [or_q 5 19 32 524288 rfl rfl (by omega) (by omega) (by omega) (by omega) (by omega) (by omega) (by omega)]
  rw [or_add1 5 32 rfl (by omega) (by omega) (by omega) (by omega) (by omega) (by omega) (by omega)]
  try omega
set_option maxRecDepth 1000000 in
theorem rwrun_24 (d n m a c imm : Int) : runI Try.prog ERc 60 21 [insV 24 d n m a c imm] = Br (chkV 24 d n m a c imm != 0) (some (resW 0 (chkV 24 d n m a c imm))) (some (resW (Go.bits .or .u32 (2483027968) (Go.bits .and .u32 (IntKind.u32.wrap (IntKind.i64.wrap (imm.tdiv 4))) 67108863)) 0)) := by kernel_rfl
theorem rsum_24 {d n m a c imm : Int} (h : okP 24 d n m a c imm) : Go.bits .or .u32 (2483027968) (Go.bits .and .u32 (IntKind.u32.wrap (IntKind.i64.wrap (imm.tdiv 4))) 67108863) = wordP 24 d n m a c imm := by
  obtain ⟨hd, hn, hm, ha, hc, hz, hi⟩ : d = 0 ∧ n = 0 ∧ m = 0 ∧ a = 0 ∧ c = 0 ∧ True ∧ (imm % 4 = 0 ∧ -134217728 ≤ imm ∧ imm < 134217728) := h
  show _ = 2483027968 + ((imm / 4) % 67108864)
  rw [tdiv4 hi.1 (by omega) (by omega), and_add 26 67108863 67108864 rfl rfl (by omega)]
  rw [or_q1 26 67108864 rfl (by omega) (by omega) (by omega) (by omega) (by omega) (by omega)]
  try omega
set_option maxRecDepth 1000000 in
theorem rwrun_25 (d n m a c imm : Int) : runI Try.prog ERc 60 21 [insV 25 d n m a c imm] = Br (chkV 25 d n m a c imm != 0) (some (resW 0 (chkV 25 d n m a c imm))) (some (resW (Go.bits .or .u32 (3592355840) (IntKind.u32.wrap (IntKind.u32.wrap (n) * 32))) 0)) := by kernel_rfl
theorem rsum_25 {d n m a c imm : Int} (h : okP 25 d n m a c imm) : Go.bits .or .u32 (3592355840) (IntKind.u32.wrap (IntKind.u32.wrap (n) * 32)) = wordP 25 d n m a c imm := by
  obtain ⟨hd, hn, hm, ha, hc, hz, hi⟩ : d = 0 ∧ (0 ≤ n ∧ n ≤ 31) ∧ m = 0 ∧ a = 0 ∧ c = 0 ∧ imm = 0 ∧ (True) := h
  show _ = 3592355840 + n * 32
  rw [or_add 5 5 32 32 rfl rfl (by omega) (by omega) (by omega) (by omega) (by omega) (by omega) (by omega)]
  try omega
set_option maxRecDepth 1000000 in
theorem rwrun_26 (d n m a c imm : Int) : runI Try.prog ERc 60 21 [insV 26 d n m a c imm] = Br (chkV 26 d n m a c imm != 0) (some (resW 0 (chkV 26 d n m a c imm))) (some (resW (Go.bits .or .u32 (3594452992) (IntKind.u32.wrap (IntKind.u32.wrap (n) * 32))) 0)) := by kernel_rfl
theorem rsum_26 {d n m a c imm : Int} (h : okP 26 d n m a c imm) : Go.bits .or .u32 (3594452992) (IntKind.u32.wrap (IntKind.u32.wrap (n) * 32)) = wordP 26 d n m a c imm := by
  obtain ⟨hd, hn, hm, ha, hc, hz, hi⟩ : d = 0 ∧ (0 ≤ n ∧ n ≤ 31) ∧ m = 0 ∧ a = 0 ∧ c = 0 ∧ imm = 0 ∧ (True) := h
  show _ = 3594452992 + n * 32
  rw [or_add 5 5 32 32 rfl rfl (by omega) (by omega) (by omega) (by omega) (by omega) (by omega) (by omega)]
  try omega
set_option maxRecDepth 1000000 in
theorem rwrun_27 (d n m a c imm : Int) : runI Try.prog ERc 60 21 [insV 27 d n m a c imm] = Br (chkV 27 d n m a c imm != 0) (some (resW 0 (chkV 27 d n m a c imm))) (some (resW (Go.bits .or .u32 (3596550144) (IntKind.u32.wrap (IntKind.u32.wrap (n) * 32))) 0)) := by kernel_rfl
theorem rsum_27 {d n m a c imm : Int} (h : okP 27 d n m a c imm) : Go.bits .or .u32 (3596550144) (IntKind.u32.wrap (IntKind.u32.wrap (n) * 32)) = wordP 27 d n m a c imm := by
  obtain ⟨hd, hn, hm, ha, hc, hz, hi⟩ : d = 0 ∧ (0 ≤ n ∧ n ≤ 31) ∧ m = 0 ∧ a = 0 ∧ c = 0 ∧ imm = 0 ∧ (True) := h
  show _ = 3596550144 + n * 32
  rw [or_add 5 5 32 32 rfl rfl (by omega) (by omega) (by omega) (by omega) (by omega) (by omega) (by omega)]
  try omega
set_option maxRecDepth 1000000 in
theorem rwrun_28 (d n m a c imm : Int) : runI Try.prog ERc 60 21 [insV 28 d n m a c imm] = Br (chkV 28 d n m a c imm != 0) (some (resW 0 (chkV 28 d n m a c imm))) (some (resW (Go.bits .or .u32 (Go.bits .or .u32 (Go.bits .or .u32 (4181721088) (IntKind.u32.wrap (IntKind.u32.wrap ((IntKind.u32.wrap imm).tdiv 8) * 1024))) (IntKind.u32.wrap (IntKind.u32.wrap (n) * 32))) (IntKind.u32.wrap (d))) 0)) := by kernel_rfl
theorem rsum_28 {d n m a c imm : Int} (h : okP 28 d n m a c imm) : Go.bits .or .u32 (Go.bits .or .u32 (Go.bits .or .u32 (4181721088) (IntKind.u32.wrap (IntKind.u32.wrap ((IntKind.u32.wrap imm).tdiv 8) * 1024))) (IntKind.u32.wrap (IntKind.u32.wrap (n) * 32))) (IntKind.u32.wrap (d)) = wordP 28 d n m a c imm := by
  obtain ⟨hd, hn, hm, ha, hc, hz, hi⟩ : (0 ≤ d ∧ d ≤ 31) ∧ (0 ≤ n ∧ n ≤ 31) ∧ m = 0 ∧ a = 0 ∧ c = 0 ∧ True ∧ (0 ≤ imm ∧ imm < 32768 ∧ imm % 8 = 0) := h
  show _ = 4181721088 + n * 32 + (imm / 8) * 1024 + d
  rw [wrap_u32_in (n := imm) (by omega) (by omega), Int.tdiv_eq_ediv_of_nonneg (show 0 ≤ imm by omega)]
  rw [or_add 10 12 1024 4096 rfl rfl (by omega) (by omega) (by omega) (by omega) (by omega) (by omega) (by omega)]
  rw [or_add 5 5 32 32 rfl rfl (by omega) (by omega) (by omega) (by omega) (by omega) (by omega) (by omega)]
  rw [or_add1 5 32 rfl (by omega) (by omega) (by omega) (by omega) (by omega) (by omega) (by omega)]
  try omega
set_option maxRecDepth 1000000 in
theorem rwrun_29 (d n m a c imm : Int) : runI Try.prog ERc 60 21 [insV 29 d n m a c imm] = Br (chkV 29 d n m a c imm != 0) (some (resW 0 (chkV 29 d n m a c imm))) (some (resW (Go.bits .or .u32 (Go.bits .or .u32 (Go.bits .or .u32 (4177526784) (IntKind.u32.wrap (IntKind.u32.wrap ((IntKind.u32.wrap imm).tdiv 8) * 1024))) (IntKind.u32.wrap (IntKind.u32.wrap (n) * 32))) (IntKind.u32.wrap (d))) 0)) := by kernel_rfl
theorem rsum_29 {d n m a c imm : Int} (h : okP 29 d n m a c imm) : Go.bits .or .u32 (Go.bits .or .u32 (Go.bits .or .u32 (4177526784) (IntKind.u32.wrap (IntKind.u32.wrap ((IntKind.u32.wrap imm).tdiv 8) * 1024))) (IntKind.u32.wrap (IntKind.u32.wrap (n) * 32))) (IntKind.u32.wrap (d)) = wordP 29 d n m a c imm := by
  obtain ⟨hd, hn, hm, ha, hc, hz, hi⟩ : (0 ≤ d ∧ d ≤ 31) ∧ (0 ≤ n ∧ n ≤ 31) ∧ m = 0 ∧ a = 0 ∧ c = 0 ∧ True ∧ (0 ≤ imm ∧ imm < 32768 ∧ imm % 8 = 0) := h
  show _ = 4177526784 + n * 32 + (imm / 8) * 1024 + d
  rw [wrap_u32_in (n := imm) (by omega) (by omega), Int.tdiv_eq_ediv_of_nonneg (show 0 ≤ imm by omega)]
  rw [or_add 10 12 1024 4096 rfl rfl (by omega) (by omega) (by omega) (by omega) (by omega) (by omega) (by omega)]
  rw [or_add 5 5 32 32 rfl rfl (by omega) (by omega) (by omega) (by omega) (by omega) (by omega) (by omega)]
  rw [or_add1 5 32 rfl (by omega) (by omega) (by omega) (by omega) (by omega) (by omega) (by omega)]
  try omega
set_option maxRecDepth 1000000 in
theorem rwrun_30 (d n m a c imm : Int) : runI Try.prog ERc 60 21 [insV 30 d n m a c imm] = Br (chkV 30 d n m a c imm != 0) (some (resW 0 (chkV 30 d n m a c imm))) (some (resW (Go.bits .or .u32 (Go.bits .or .u32 (Go.bits .or .u32 (960495616) (IntKind.u32.wrap (IntKind.u32.wrap (imm) * 1024))) (IntKind.u32.wrap (IntKind.u32.wrap (n) * 32))) (IntKind.u32.wrap (d))) 0)) := by kernel_rfl
theorem rsum_30 {d n m a c imm : Int} (h : okP 30 d n m a c imm) : Go.bits .or .u32 (Go.bits .or .u32 (Go.bits .or .u32 (960495616) (IntKind.u32.wrap (IntKind.u32.wrap (imm) * 1024))) (IntKind.u32.wrap (IntKind.u32.wrap (n) * 32))) (IntKind.u32.wrap (d)) = wordP 30 d n m a c imm := by
  obtain ⟨hd, hn, hm, ha, hc, hz, hi⟩ : (0 ≤ d ∧ d ≤ 31) ∧ (0 ≤ n ∧ n ≤ 31) ∧ m = 0 ∧ a = 0 ∧ c = 0 ∧ True ∧ (0 ≤ imm ∧ imm < 4096) := h
  show _ = 960495616 + n * 32 + imm * 1024 + d
  rw [or_add 10 12 1024 4096 rfl rfl (by omega) (by omega) (by omega) (by omega) (by omega) (by omega) (by omega)]
  rw [or_add 5 5 32 32 rfl rfl (by omega) (by omega) (by omega) (by omega) (by omega) (by omega) (by omega)]
  rw [or_add1 5 32 rfl (by omega) (by omega) (by omega) (by omega) (by omega) (by omega) (by omega)]
  try omega
set_option maxRecDepth 1000000 in
theorem rwrun_31 (d n m a c imm : Int) : runI Try.prog ERc 60 21 [insV 31 d n m a c imm] = Br (chkV 31 d n m a c imm != 0) (some (resW 0 (chkV 31 d n m a c imm))) (some (resW (Go.bits .or .u32 (Go.bits .or .u32 (Go.bits .or .u32 (4167071744) (IntKind.u32.wrap (IntKind.u32.wrap (m) * 65536))) (IntKind.u32.wrap (IntKind.u32.wrap (n) * 32))) (IntKind.u32.wrap (d))) 0)) := by kernel_rfl
theorem rsum_31 {d n m a c imm : Int} (h : okP 31 d n m a c imm) : Go.bits .or .u32 (Go.bits .or .u32 (Go.bits .or .u32 (4167071744) (IntKind.u32.wrap (IntKind.u32.wrap (m) * 65536))) (IntKind.u32.wrap (IntKind.u32.wrap (n) * 32))) (IntKind.u32.wrap (d)) = wordP 31 d n m a c imm := by
  obtain ⟨hd, hn, hm, ha, hc, hz, hi⟩ : (0 ≤ d ∧ d ≤ 31) ∧ (0 ≤ n ∧ n ≤ 31) ∧ (0 ≤ m ∧ m ≤ 31) ∧ a = 0 ∧ c = 0 ∧ imm = 0 ∧ (True) := h
  show _ = 4167071744 + n * 32 + m * 65536 + d
  rw [or_add 16 5 65536 32 rfl rfl (by omega) (by omega) (by omega) (by omega) (by omega) (by omega) (by omega)]
  rw [or_add 5 5 32 32 rfl rfl (by omega) (by omega) (by omega) (by omega) (by omega) (by omega) (by omega)]
  rw [or_add1 5 32 rfl (by omega) (by omega) (by omega) (by omega) (by omega) (by omega) (by omega)]
  try omega
set_option maxRecDepth 1000000 in
theorem rwrun_32 (d n m a c imm : Int) : runI Try.prog ERc 60 21 [insV 32 d n m a c imm] = Br (chkV 32 d n m a c imm != 0) (some (resW 0 (chkV 32 d n m a c imm))) (some (resW (Go.bits .or .u32 (Go.bits .or .u32 (Go.bits .or .u32 (4162877440) (IntKind.u32.wrap (IntKind.u32.wrap (m) * 65536))) (IntKind.u32.wrap (IntKind.u32.wrap (n) * 32))) (IntKind.u32.wrap (d))) 0)) := by kernel_rfl
theorem rsum_32 {d n m a c imm : Int} (h : okP 32 d n m a c imm) : Go.bits .or .u32 (Go.bits .or .u32 (Go.bits .or .u32 (4162877440) (IntKind.u32.wrap (IntKind.u32.wrap (m) * 65536))) (IntKind.u32.wrap (IntKind.u32.wrap (n) * 32))) (IntKind.u32.wrap (d)) = wordP 32 d n m a c imm := by
  obtain ⟨hd, hn, hm, ha, hc, hz, hi⟩ : (0 ≤ d ∧ d ≤ 31) ∧ (0 ≤ n ∧ n ≤ 31) ∧ (0 ≤ m ∧ m ≤ 31) ∧ a = 0 ∧ c = 0 ∧ imm = 0 ∧ (True) := h
  show _ = 4162877440 + n * 32 + m * 65536 + d
  rw [or_add 16 5 65536 32 rfl rfl (by omega) (by omega) (by omega) (by omega) (by omega) (by omega) (by omega)]
  rw [or_add 5 5 32 32 rfl rfl (by omega) (by omega) (by omega) (by omega) (by omega) (by omega) (by omega)]
  rw [or_add1 5 32 rfl (by omega) (by omega) (by omega) (by omega) (by omega) (by omega) (by omega)]
  try omega
set_option maxRecDepth 1000000 in
theorem rwrun_33 (d n m a c imm : Int) : runI Try.prog ERc 60 21 [insV 33 d n m a c imm] = Br (chkV 33 d n m a c imm != 0) (some (resW 0 (chkV 33 d n m a c imm))) (some (resW (Go.bits .or .u32 (Go.bits .or .u32 (3370122240) (IntKind.u32.wrap (IntKind.u32.wrap (n) * 32))) (IntKind.u32.wrap (d))) 0)) := by kernel_rfl
theorem rsum_33 {d n m a c imm : Int} (h : okP 33 d n m a c imm) : Go.bits .or .u32 (Go.bits .or .u32 (3370122240) (IntKind.u32.wrap (IntKind.u32.wrap (n) * 32))) (IntKind.u32.wrap (d)) = wordP 33 d n m a c imm := by
  obtain ⟨hd, hn, hm, ha, hc, hz, hi⟩ : (0 ≤ d ∧ d ≤ 31) ∧ (0 ≤ n ∧ n ≤ 31) ∧ m = 0 ∧ a = 0 ∧ c = 0 ∧ imm = 0 ∧ (True) := h
  show _ = 3370122240 + n * 32 + d
  rw [or_add 5 5 32 32 rfl rfl (by omega) (by omega) (by omega) (by omega) (by omega) (by omega) (by omega)]
  rw [or_add1 5 32 rfl (by omega) (by omega) (by omega) (by omega) (by omega) (by omega) (by omega)]
  try omega
set_option maxRecDepth 1000000 in
theorem rwrun_34 (d n m a c imm : Int) : runI Try.prog ERc 60 21 [insV 34 d n m a c imm] = Br (chkV 34 d n m a c imm != 0) (some (resW 0 (chkV 34 d n m a c imm))) (some (resW (Go.bits .or .u32 (Go.bits .or .u32 (3365927936) (IntKind.u32.wrap (IntKind.u32.wrap (n) * 32))) (IntKind.u32.wrap (d))) 0)) := by kernel_rfl
theorem rsum_34 {d n m a c imm : Int} (h : okP 34 d n m a c imm) : Go.bits .or .u32 (Go.bits .or .u32 (3365927936) (IntKind.u32.wrap (IntKind.u32.wrap (n) * 32))) (IntKind.u32.wrap (d)) = wordP 34 d n m a c imm := by
  obtain ⟨hd, hn, hm, ha, hc, hz, hi⟩ : (0 ≤ d ∧ d ≤ 31) ∧ (0 ≤ n ∧ n ≤ 31) ∧ m = 0 ∧ a = 0 ∧ c = 0 ∧ imm = 0 ∧ (True) := h
  show _ = 3365927936 + n * 32 + d
  rw [or_add 5 5 32 32 rfl rfl (by omega) (by omega) (by omega) (by omega) (by omega) (by omega) (by omega)]
  rw [or_add1 5 32 rfl (by omega) (by omega) (by omega) (by omega) (by omega) (by omega) (by omega)]
  try omega
set_option maxRecDepth 1000000 in
theorem rwrun_35 (d n m a c imm : Int) : runI Try.prog ERc 60 21 [insV 35 d n m a c imm] = Br (chkV 35 d n m a c imm != 0) (some (resW 0 (chkV 35 d n m a c imm))) (some (resW (Go.bits .or .u32 (Go.bits .or .u32 (3361700864) (IntKind.u32.wrap (IntKind.u32.wrap (n) * 32))) (IntKind.u32.wrap (d))) 0)) := by kernel_rfl
theorem rsum_35 {d n m a c imm : Int} (h : okP 35 d n m a c imm) : Go.bits .or .u32 (Go.bits .or .u32 (3361700864) (IntKind.u32.wrap (IntKind.u32.wrap (n) * 32))) (IntKind.u32.wrap (d)) = wordP 35 d n m a c imm := by
  obtain ⟨hd, hn, hm, ha, hc, hz, hi⟩ : (0 ≤ d ∧ d ≤ 31) ∧ (0 ≤ n ∧ n ≤ 31) ∧ m = 0 ∧ a = 0 ∧ c = 0 ∧ imm = 0 ∧ (True) := h
  show _ = 3361700864 + n * 32 + d
  rw [or_add 5 5 32 32 rfl rfl (by omega) (by omega) (by omega) (by omega) (by omega) (by omega) (by omega)]
  rw [or_add1 5 32 rfl (by omega) (by omega) (by omega) (by omega) (by omega) (by omega) (by omega)]
  try omega
set_option maxRecDepth 1000000 in
theorem rwrun_36 (d n m a c imm : Int) : runI Try.prog ERc 60 21 [insV 36 d n m a c imm] = Br (chkV 36 d n m a c imm != 0) (some (resW 0 (chkV 36 d n m a c imm))) (some (resW (Go.bits .or .u32 (Go.bits .or .u32 (Go.bits .or .u32 (3355474944) (IntKind.u32.wrap (IntKind.u32.wrap (d) * 65536))) (IntKind.u32.wrap (IntKind.u32.wrap (n) * 32))) (IntKind.u32.wrap (m))) 0)) := by kernel_rfl
theorem rsum_36 {d n m a c imm : Int} (h : okP 36 d n m a c imm) : Go.bits .or .u32 (Go.bits .or .u32 (Go.bits .or .u32 (3355474944) (IntKind.u32.wrap (IntKind.u32.wrap (d) * 65536))) (IntKind.u32.wrap (IntKind.u32.wrap (n) * 32))) (IntKind.u32.wrap (m)) = wordP 36 d n m a c imm := by
  obtain ⟨hd, hn, hm, ha, hc, hz, hi⟩ : (0 ≤ d ∧ d ≤ 31) ∧ (0 ≤ n ∧ n ≤ 31) ∧ (0 ≤ m ∧ m ≤ 31) ∧ a = 0 ∧ c = 0 ∧ imm = 0 ∧ (True) := h
  show _ = 3355474944 + d * 65536 + n * 32 + m
  rw [or_add 16 5 65536 32 rfl rfl (by omega) (by omega) (by omega) (by omega) (by omega) (by omega) (by omega)]
  rw [or_add 5 5 32 32 rfl rfl (by omega) (by omega) (by omega) (by omega) (by omega) (by omega) (by omega)]
  rw [or_add1 5 32 rfl (by omega) (by omega) (by omega) (by omega) (by omega) (by omega) (by omega)]
  try omega
set_option maxRecDepth 1000000 in
theorem rwrun_38 (d n m a c imm : Int) : runI Try.prog ERc 60 21 [insV 38 d n m a c imm] = Br (chkV 38 d n m a c imm != 0) (some (resW 0 (chkV 38 d n m a c imm))) (some (resW (3573758879) 0)) := by kernel_rfl
theorem rsum_38 {d n m a c imm : Int} (h : okP 38 d n m a c imm) : 3573758879 = wordP 38 d n m a c imm := by
  rfl
set_option maxRecDepth 1000000 in
theorem rwrun_39 (d n m a c imm : Int) : runI Try.prog ERc 60 21 [insV 39 d n m a c imm] = Br (chkV 39 d n m a c imm != 0) (some (resW 0 (chkV 39 d n m a c imm))) (some (resW (3573759967) 0)) := by kernel_rfl
theorem rsum_39 {d n m a c imm : Int} (h : okP 39 d n m a c imm) : 3573759967 = wordP 39 d n m a c imm := by
  rfl
set_option maxRecDepth 1000000 in
theorem rwrun_40 (d n m a c imm : Int) : runI Try.prog ERc 60 21 [insV 40 d n m a c imm] = Br (chkV 40 d n m a c imm != 0) (some (resW 0 (chkV 40 d n m a c imm))) (some (resW (Go.bits .or .u32 (3574299424) (IntKind.u32.wrap (n))) 0)) := by kernel_rfl
theorem rsum_40 {d n m a c imm : Int} (h : okP 40 d n m a c imm) : Go.bits .or .u32 (3574299424) (IntKind.u32.wrap (n)) = wordP 40 d n m a c imm := by
  obtain ⟨hd, hn, hm, ha, hc, hz, hi⟩ : d = 0 ∧ (0 ≤ n ∧ n ≤ 31) ∧ m = 0 ∧ a = 0 ∧ c = 0 ∧ imm = 0 ∧ (True) := h
  show _ = 3574299424 + n
  rw [or_add1 5 32 rfl (by omega) (by omega) (by omega) (by omega) (by omega) (by omega) (by omega)]
  try omega
set_option maxRecDepth 1000000 in
theorem rwrun_41 (d n m a c imm : Int) : runI Try.prog ERc 60 21 [insV 41 d n m a c imm] = Br (chkV 41 d n m a c imm != 0) (some (resW 0 (chkV 41 d n m a c imm))) (some (resW (Go.bits .or .u32 (3574297888) (IntKind.u32.wrap (n))) 0)) := by kernel_rfl
theorem rsum_41 {d n m a c imm : Int} (h : okP 41 d n m a c imm) : Go.bits .or .u32 (3574297888) (IntKind.u32.wrap (n)) = wordP 41 d n m a c imm := by
  obtain ⟨hd, hn, hm, ha, hc, hz, hi⟩ : d = 0 ∧ (0 ≤ n ∧ n ≤ 31) ∧ m = 0 ∧ a = 0 ∧ c = 0 ∧ imm = 0 ∧ (True) := h
  show _ = 3574297888 + n
  rw [or_add1 5 32 rfl (by omega) (by omega) (by omega) (by omega) (by omega) (by omega) (by omega)]
  try omega
set_option maxRecDepth 1000000 in
theorem rwrun_42 (d n m a c imm : Int) : runI Try.prog ERc 60 21 [insV 42 d n m a c imm] = Br (chkV 42 d n m a c imm != 0) (some (resW 0 (chkV 42 d n m a c imm))) (some (resW (Go.bits .or .u32 (3556769793) (IntKind.u32.wrap (IntKind.u32.wrap (imm) * 32))) 0)) := by kernel_rfl
theorem rsum_42 {d n m a c imm : Int} (h : okP 42 d n m a c imm) : Go.bits .or .u32 (3556769793) (IntKind.u32.wrap (IntKind.u32.wrap (imm) * 32)) = wordP 42 d n m a c imm := by
  obtain ⟨hd, hn, hm, ha, hc, hz, hi⟩ : d = 0 ∧ n = 0 ∧ m = 0 ∧ a = 0 ∧ c = 0 ∧ True ∧ (0 ≤ imm ∧ imm < 65536) := h
  show _ = 3556769793 + imm * 32
  rw [or_add 5 16 32 65536 rfl rfl (by omega) (by omega) (by omega) (by omega) (by omega) (by omega) (by omega)]
  try omega
set_option maxRecDepth 1000000 in
theorem rwrun_37a (d n m a c : Int) : runI Try.prog ERc 60 21 [insV 37 d n m a c 0] = Br (chkV 37 d n m a c 0 != 0) (some (resW 0 (chkV 37 d n m a c 0))) (some (resW 3573758911 0)) := by kernel_rfl
set_option maxRecDepth 1000000 in
theorem rwrun_37b (d n m a c : Int) : runI Try.prog ERc 60 21 [insV 37 d n m a c 1] = Br (chkV 37 d n m a c 1 != 0) (some (resW 0 (chkV 37 d n m a c 1))) (some (resW 3573758399 0)) := by kernel_rfl
set_option maxRecDepth 1000000 in
theorem rwrun_37c (d n m a c : Int) : runI Try.prog ERc 60 21 [insV 37 d n m a c 2] = Br (chkV 37 d n m a c 2 != 0) (some (resW 0 (chkV 37 d n m a c 2))) (some (resW 3573758655 0)) := by kernel_rfl
theorem rwrun_in (d n m a c imm : Int) : ∀ k : Nat, k < 43 → okP k d n m a c imm → runI Try.prog ERc 60 21 [insV (k : Nat) d n m a c imm] = some (resW (wordP k d n m a c imm) 0)
  | 0, _, h => by
    have hc : chkV (0 : Nat) d n m a c imm = 0 := if_pos ⟨by omega, h⟩
    have h2 := rwrun_0 d n m a c imm
    rw [rsum_0 h] at h2
    refine h2.trans ?_
    rw [show chkV 0 d n m a c imm = 0 from hc]; rfl
  | 1, _, h => by
    have hc : chkV (1 : Nat) d n m a c imm = 0 := if_pos ⟨by omega, h⟩
    have h2 := rwrun_1 d n m a c imm
    rw [rsum_1 h] at h2
    refine h2.trans ?_
    rw [show chkV 1 d n m a c imm = 0 from hc]; rfl
  | 2, _, h => by
    have hc : chkV (2 : Nat) d n m a c imm = 0 := if_pos ⟨by omega, h⟩
    have h2 := rwrun_2 d n m a c imm
    rw [rsum_2 h] at h2
    refine h2.trans ?_
    rw [show chkV 2 d n m a c imm = 0 from hc]; rfl
  | 3, _, h => by
    have hc : chkV (3 : Nat) d n m a c imm = 0 := if_pos ⟨by omega, h⟩
    have h2 := rwrun_3 d n m a c imm
    rw [rsum_3 h] at h2
    refine h2.trans ?_
    rw [show chkV 3 d n m a c imm = 0 from hc]; rfl
  | 4, _, h => by
    have hc : chkV (4 : Nat) d n m a c imm = 0 := if_pos ⟨by omega, h⟩
    have h2 := rwrun_4 d n m a c imm
    rw [rsum_4 h] at h2
    refine h2.trans ?_
    rw [show chkV 4 d n m a c imm = 0 from hc]; rfl
  | 5, _, h => by
    have hc : chkV (5 : Nat) d n m a c imm = 0 := if_pos ⟨by omega, h⟩
    have h2 := rwrun_5 d n m a c imm
    rw [rsum_5 h] at h2
    refine h2.trans ?_
    rw [show chkV 5 d n m a c imm = 0 from hc]; rfl
  | 6, _, h => by
    have hc : chkV (6 : Nat) d n m a c imm = 0 := if_pos ⟨by omega, h⟩
    have h2 := rwrun_6 d n m a c imm
    rw [rsum_6 h] at h2
    refine h2.trans ?_
    rw [show chkV 6 d n m a c imm = 0 from hc]; rfl
  | 7, _, h => by
    have hc : chkV (7 : Nat) d n m a c imm = 0 := if_pos ⟨by omega, h⟩
    have h2 := rwrun_7 d n m a c imm
    rw [rsum_7 h] at h2
    refine h2.trans ?_
    rw [show chkV 7 d n m a c imm = 0 from hc]; rfl
  | 8, _, h => by
    have hc : chkV (8 : Nat) d n m a c imm = 0 := if_pos ⟨by omega, h⟩
    have h2 := rwrun_8 d n m a c imm
    rw [rsum_8 h] at h2
    refine h2.trans ?_
    rw [show chkV 8 d n m a c imm = 0 from hc]; rfl
  | 9, _, h => by
    have hc : chkV (9 : Nat) d n m a c imm = 0 := if_pos ⟨by omega, h⟩
    have h2 := rwrun_9 d n m a c imm
    rw [rsum_9 h] at h2
    refine h2.trans ?_
    rw [show chkV 9 d n m a c imm = 0 from hc]; rfl
  | 10, _, h => by
    have hc : chkV (10 : Nat) d n m a c imm = 0 := if_pos ⟨by omega, h⟩
    have h2 := rwrun_10 d n m a c imm
    rw [rsum_10 h] at h2
    refine h2.trans ?_
    rw [show chkV 10 d n m a c imm = 0 from hc]; rfl
  | 11, _, h => by
    have hc : chkV (11 : Nat) d n m a c imm = 0 := if_pos ⟨by omega, h⟩
    have h2 := rwrun_11 d n m a c imm
    rw [rsum_11 h] at h2
    refine h2.trans ?_
    rw [show chkV 11 d n m a c imm = 0 from hc]; rfl
  | 12, _, h => by
    have hc : chkV (12 : Nat) d n m a c imm = 0 := if_pos ⟨by omega, h⟩
    have h2 := rwrun_12 d n m a c imm
    rw [rsum_12 h] at h2
    refine h2.trans ?_
    rw [show chkV 12 d n m a c imm = 0 from hc]; rfl
  | 13, _, h => by
    have hc : chkV (13 : Nat) d n m a c imm = 0 := if_pos ⟨by omega, h⟩
    have h2 := rwrun_13 d n m a c imm
    rw [rsum_13 h] at h2
    refine h2.trans ?_
    rw [show chkV 13 d n m a c imm = 0 from hc]; rfl
  | 14, _, h => by
    have hc : chkV (14 : Nat) d n m a c imm = 0 := if_pos ⟨by omega, h⟩
    have h2 := rwrun_14 d n m a c imm
    rw [rsum_14 h] at h2
    refine h2.trans ?_
    rw [show chkV 14 d n m a c imm = 0 from hc]; rfl
  | 15, _, h => by
    have hc : chkV (15 : Nat) d n m a c imm = 0 := if_pos ⟨by omega, h⟩
    have h2 := rwrun_15 d n m a c imm
    rw [rsum_15 h] at h2
    refine h2.trans ?_
    rw [show chkV 15 d n m a c imm = 0 from hc]; rfl
  | 16, _, h => by
    have hc : chkV (16 : Nat) d n m a c imm = 0 := if_pos ⟨by omega, h⟩
    have h2 := rwrun_16 d n m a c imm
    rw [rsum_16 h] at h2
    refine h2.trans ?_
    rw [show chkV 16 d n m a c imm = 0 from hc]; rfl
  | 17, _, h => by
    have hc : chkV (17 : Nat) d n m a c imm = 0 := if_pos ⟨by omega, h⟩
    have h2 := rwrun_17 d n m a c imm
    rw [rsum_17 h] at h2
    refine h2.trans ?_
    rw [show chkV 17 d n m a c imm = 0 from hc]; rfl
  | 18, _, h => by
    have hc : chkV (18 : Nat) d n m a c imm = 0 := if_pos ⟨by omega, h⟩
    have h2 := rwrun_18 d n m a c imm
    rw [rsum_18 h] at h2
    refine h2.trans ?_
    rw [show chkV 18 d n m a c imm = 0 from hc]; rfl
  | 19, _, h => by
    have hc : chkV (19 : Nat) d n m a c imm = 0 := if_pos ⟨by omega, h⟩
    have h2 := rwrun_19 d n m a c imm
    rw [rsum_19 h] at h2
    refine h2.trans ?_
    rw [show chkV 19 d n m a c imm = 0 from hc]; rfl
  | 20, _, h => by
    have hc : chkV (20 : Nat) d n m a c imm = 0 := if_pos ⟨by omega, h⟩
    have h2 := rwrun_20 d n m a c imm
    rw [rsum_20 h] at h2
    refine h2.trans ?_
    rw [show chkV 20 d n m a c imm = 0 from hc]; rfl
  | 21, _, h => by
    have hc : chkV (21 : Nat) d n m a c imm = 0 := if_pos ⟨by omega, h⟩
    have h2 := rwrun_21 d n m a c imm
    rw [rsum_21 h] at h2
    refine h2.trans ?_
    rw [show chkV 21 d n m a c imm = 0 from hc]; rfl
  | 22, _, h => by
    have hc : chkV (22 : Nat) d n m a c imm = 0 := if_pos ⟨by omega, h⟩
    have h2 := rwrun_22 d n m a c imm
    rw [rsum_22 h] at h2
    refine h2.trans ?_
    rw [show chkV 22 d n m a c imm = 0 from hc]; rfl
  | 23, _, h => by
    have hc : chkV (23 : Nat) d n m a c imm = 0 := if_pos ⟨by omega, h⟩
    have h2 := rwrun_23 d n m a c imm
    rw [rsum_23 h] at h2
    refine h2.trans ?_
    rw [show chkV 23 d n m a c imm = 0 from hc]; rfl
  | 24, _, h => by
    have hc : chkV (24 : Nat) d n m a c imm = 0 := if_pos ⟨by omega, h⟩
    have h2 := rwrun_24 d n m a c imm
    rw [rsum_24 h] at h2
    refine h2.trans ?_
    rw [show chkV 24 d n m a c imm = 0 from hc]; rfl
  | 25, _, h => by
    have hc : chkV (25 : Nat) d n m a c imm = 0 := if_pos ⟨by omega, h⟩
    have h2 := rwrun_25 d n m a c imm
    rw [rsum_25 h] at h2
    refine h2.trans ?_
    rw [show chkV 25 d n m a c imm = 0 from hc]; rfl
  | 26, _, h => by
    have hc : chkV (26 : Nat) d n m a c imm = 0 := if_pos ⟨by omega, h⟩
    have h2 := rwrun_26 d n m a c imm
    rw [rsum_26 h] at h2
    refine h2.trans ?_
    rw [show chkV 26 d n m a c imm = 0 from hc]; rfl
  | 27, _, h => by
    have hc : chkV (27 : Nat) d n m a c imm = 0 := if_pos ⟨by omega, h⟩
    have h2 := rwrun_27 d n m a c imm
    rw [rsum_27 h] at h2
    refine h2.trans ?_
    rw [show chkV 27 d n m a c imm = 0 from hc]; rfl
  | 28, _, h => by
    have hc : chkV (28 : Nat) d n m a c imm = 0 := if_pos ⟨by omega, h⟩
    have h2 := rwrun_28 d n m a c imm
    rw [rsum_28 h] at h2
    refine h2.trans ?_
    rw [show chkV 28 d n m a c imm = 0 from hc]; rfl
  | 29, _, h => by
    have hc : chkV (29 : Nat) d n m a c imm = 0 := if_pos ⟨by omega, h⟩
    have h2 := rwrun_29 d n m a c imm
    rw [rsum_29 h] at h2
    refine h2.trans ?_
    rw [show chkV 29 d n m a c imm = 0 from hc]; rfl
  | 30, _, h => by
    have hc : chkV (30 : Nat) d n m a c imm = 0 := if_pos ⟨by omega, h⟩
    have h2 := rwrun_30 d n m a c imm
    rw [rsum_30 h] at h2
    refine h2.trans ?_
    rw [show chkV 30 d n m a c imm = 0 from hc]; rfl
  | 31, _, h => by
    have hc : chkV (31 : Nat) d n m a c imm = 0 := if_pos ⟨by omega, h⟩
    have h2 := rwrun_31 d n m a c imm
    rw [rsum_31 h] at h2
    refine h2.trans ?_
    rw [show chkV 31 d n m a c imm = 0 from hc]; rfl
  | 32, _, h => by
    have hc : chkV (32 : Nat) d n m a c imm = 0 := if_pos ⟨by omega, h⟩
    have h2 := rwrun_32 d n m a c imm
    rw [rsum_32 h] at h2
    refine h2.trans ?_
    rw [show chkV 32 d n m a c imm = 0 from hc]; rfl
  | 33, _, h => by
    have hc : chkV (33 : Nat) d n m a c imm = 0 := if_pos ⟨by omega, h⟩
    have h2 := rwrun_33 d n m a c imm
    rw [rsum_33 h] at h2
    refine h2.trans ?_
    rw [show chkV 33 d n m a c imm = 0 from hc]; rfl
  | 34, _, h => by
    have hc : chkV (34 : Nat) d n m a c imm = 0 := if_pos ⟨by omega, h⟩
    have h2 := rwrun_34 d n m a c imm
    rw [rsum_34 h] at h2
    refine h2.trans ?_
    rw [show chkV 34 d n m a c imm = 0 from hc]; rfl
  | 35, _, h => by
    have hc : chkV (35 : Nat) d n m a c imm = 0 := if_pos ⟨by omega, h⟩
    have h2 := rwrun_35 d n m a c imm
    rw [rsum_35 h] at h2
    refine h2.trans ?_
    rw [show chkV 35 d n m a c imm = 0 from hc]; rfl
  | 36, _, h => by
    have hc : chkV (36 : Nat) d n m a c imm = 0 := if_pos ⟨by omega, h⟩
    have h2 := rwrun_36 d n m a c imm
    rw [rsum_36 h] at h2
    refine h2.trans ?_
    rw [show chkV 36 d n m a c imm = 0 from hc]; rfl
  | 37, _, h => by
    have hc : chkV (37 : Nat) d n m a c imm = 0 := if_pos ⟨by omega, h⟩
    obtain ⟨hd, hn, hm, ha, hc', hz, hi⟩ : d = 0 ∧ n = 0 ∧ m = 0 ∧ a = 0 ∧ c = 0 ∧ True ∧ (0 ≤ imm ∧ imm ≤ 2) := h
    rcases (show imm = 0 ∨ imm = 1 ∨ imm = 2 by omega) with rfl | rfl | rfl
    · have h2 := rwrun_37a d n m a c
      rw [show chkV 37 d n m a c 0 = 0 from hc] at h2
      exact h2
    · have h2 := rwrun_37b d n m a c
      rw [show chkV 37 d n m a c 1 = 0 from hc] at h2
      exact h2
    · have h2 := rwrun_37c d n m a c
      rw [show chkV 37 d n m a c 2 = 0 from hc] at h2
      exact h2
  | 38, _, h => by
    have hc : chkV (38 : Nat) d n m a c imm = 0 := if_pos ⟨by omega, h⟩
    have h2 := rwrun_38 d n m a c imm
    rw [rsum_38 h] at h2
    refine h2.trans ?_
    rw [show chkV 38 d n m a c imm = 0 from hc]; rfl
  | 39, _, h => by
    have hc : chkV (39 : Nat) d n m a c imm = 0 := if_pos ⟨by omega, h⟩
    have h2 := rwrun_39 d n m a c imm
    rw [rsum_39 h] at h2
    refine h2.trans ?_
    rw [show chkV 39 d n m a c imm = 0 from hc]; rfl
  | 40, _, h => by
    have hc : chkV (40 : Nat) d n m a c imm = 0 := if_pos ⟨by omega, h⟩
    have h2 := rwrun_40 d n m a c imm
    rw [rsum_40 h] at h2
    refine h2.trans ?_
    rw [show chkV 40 d n m a c imm = 0 from hc]; rfl
  | 41, _, h => by
    have hc : chkV (41 : Nat) d n m a c imm = 0 := if_pos ⟨by omega, h⟩
    have h2 := rwrun_41 d n m a c imm
    rw [rsum_41 h] at h2
    refine h2.trans ?_
    rw [show chkV 41 d n m a c imm = 0 from hc]; rfl
  | 42, _, h => by
    have hc : chkV (42 : Nat) d n m a c imm = 0 := if_pos ⟨by omega, h⟩
    have h2 := rwrun_42 d n m a c imm
    rw [rsum_42 h] at h2
    refine h2.trans ?_
    rw [show chkV 42 d n m a c imm = 0 from hc]; rfl
  | k + 43, h, _ => absurd h (by omega)
theorem rword_ok (op d n m a c imm : Int) : CallOk Try.prog 21 [insV op d n m a c imm] [] fun r _ => r = .ret (resW (wordV op d n m a c imm) (chkV op d n m a c imm)) := by
  by_cases h : okI op d n m a c imm
  · have h1 : chkV op d n m a c imm = 0 := if_pos h
    have h2 : wordV op d n m a c imm = wordP op.toNat d n m a c imm := if_pos h
    rw [h1, h2]
    obtain ⟨h0, h⟩ := h
    obtain ⟨k, rfl⟩ := Int.eq_ofNat_of_zero_le h0.1
    exact runI_ok ERc_ok names mixed (n := 60) (rwrun_in d n m a c imm k (by omega) h)
  · have h1 : chkV op d n m a c imm = 1 := if_neg h
    have h2 : wordV op d n m a c imm = 0 := if_neg h
    rw [h1, h2]
    exact rword_bad h
theorem rwordG_ok {E : Eh} (hE : EOk Try.prog E) : EOk Try.prog (specE 21 wordG E) := by
  refine specE_ok hE fun args v h => ?_
  unfold wordG at h
  split at h
  · split at h
    · rename_i u op d n m a c imm hr
      cases h
      rw [readIns_eq hr]
      exact ⟨⟨insV_bd .., trivial⟩, ⟨trivial, trivial, trivial⟩, rword_ok ..⟩
    · cases h
  · cases h
end Go.Proofs.Ytjoopjhimgdgdaa.isa
