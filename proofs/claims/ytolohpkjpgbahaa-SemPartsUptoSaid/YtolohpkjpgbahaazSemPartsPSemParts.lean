/- Parts of the proof, one behind the other. -/
import Derived.Test.YtolohpkjpgbahaazSemPartsIDoT
import Derived.Test.YtolohpkjpgbahaazSemPartsRLX
import Derived.Laws.BitsAllLaws
section
/- SemParts: what the law's function computes. -/
set_option linter.unusedVariables false
set_option linter.unusedSimpArgs false
set_option maxRecDepth 1000000
namespace Go.Proofs.Ytolohpkjpgbahaa.semParts
open Go Go.Proofs Go.Proofs.YtolohpkjpgbahaaRL Go.Proofs.Ytolohpkjpgbahaa.isa
noncomputable def EP : Eh := specE 15 doG noE
theorem EP_ok : EOk Try.prog EP := doG_ok noE_ok
noncomputable abbrev cd : Code := codeOf Try.prog 5
def rK (K : V → Prop) : Res → Sto → Prop := fun r _ => match r with | .ret v => K v | .pan _ => False
def live : List Nat := [0,1,6,8,9]
/-- A part of a number. -/
def part (v : Int) (p : Nat) : Int := IntKind.i64.wrap (Go.bits .and .u64 (v.fdiv (2 ^ (16 * p))) 65535)
/-- Registers behind a move of a part. -/
def nx (op v d : Int) (p : Nat) (e : Eff) : Eff := doV op d 0 (p : Nat) 0 0 (part v p) 0 (norm e.x) e.nf e.zf e.cf e.vf
def four (v d : Int) (a b c q : Nat) (e : Eff) : Eff := nx 3 v d q (nx 3 v d c (nx 3 v d b (nx 2 v d a e)))
def regL (e : Eff) : List V := numsV .u64 e.x 32 ++ [.raw (.bool e.nf), .raw (.bool e.zf), .raw (.bool e.cf), .raw (.bool e.vf)]
noncomputable def SE (v d : Int) (e f : Eff) : St := ⟨(funcOf Try.prog 5).ntmps, [(0, .raw (.int .u64 v)), (1, .raw (.int .i64 d)), (6, .ptr 0 0), (8, .raw (.bool false)), (9, .ptr 1 0)], [.own (regL e) 25, .own (regL f) 25]⟩
def okM (m : Nat) (l : List (Nat × Nat)) (P : Prop) : Prop := Br (decide (IntKind.i64.wrap ((mdVal m l : Nat) : Int) = ((mdVal m l : Nat) : Int))) P False
def ef (x : Nat → Int) (nf zf cf vf : Bool) : Eff := ⟨x, nf, zf, cf, vf, 0, 0, 0, false⟩
end Go.Proofs.Ytolohpkjpgbahaa.semParts
end
section
/- SemParts: the numbers: four parts laid one by one are the number. -/
set_option linter.unusedVariables false
set_option linter.unusedSimpArgs false
namespace Go.Proofs.Ytolohpkjpgbahaa.semParts
open Go Go.Proofs Go.Proofs.YtolohpkjpgbahaaRL Go.Proofs.Ytolohpkjpgbahaa.isa
/-- A part laid into a number. -/
def lay (x : Int) (p : Nat) (a : Int) : Int := match p with
  | 0 => x - x % 65536 + a
  | 1 => x - x / 65536 % 65536 * 65536 + a * 65536
  | 2 => x - x / 4294967296 % 65536 * 4294967296 + a * 4294967296
  | _ => x - x / 281474976710656 % 65536 * 281474976710656 + a * 281474976710656
theorem u64w (x : Int) : w64 x = x % 18446744073709551616 := wrap_u64 x
theorem sh_at (p : Nat) (hp : p < 4) : shM (p : Int) = ((2 ^ (16 * p) : Nat) : Int) := by
  match p, hp with
  | 0, _ => rfl
  | 1, _ => rfl
  | 2, _ => rfl
  | 3, _ => rfl
  | p + 4, h => omega
theorem movz_ok (p : Nat) (hp : p < 4) (a : Int) (h0 : 0 ≤ a) (h1 : a < 65536) : w64 (w64 a * shM (p : Int)) = lay 0 p a := by
  rw [sh_at p hp, u64w a, u64w]
  match p, hp with
  | 0, _ => show (a % _ * 1) % _ = 0 - 0 % 65536 + a; omega
  | 1, _ => show (a % _ * 65536) % _ = 0 - 0 / 65536 % 65536 * 65536 + a * 65536; omega
  | 2, _ => show (a % _ * 4294967296) % _ = 0 - 0 / 4294967296 % 65536 * 4294967296 + a * 4294967296; omega
  | 3, _ => show (a % _ * 281474976710656) % _ = 0 - 0 / 281474976710656 % 65536 * 281474976710656 + a * 281474976710656; omega
  | p + 4, h => omega
theorem clear0 (n P Q : Nat) (hP : 0 < P) (hQ : 0 < Q) : (n - n / P % Q * P) / P % Q = 0 := by
  have h1 := Nat.div_add_mod n P
  have h2 := Nat.div_add_mod (n / P) Q
  have e : n - n / P % Q * P = P * (Q * (n / P / Q)) + n % P := by
    have h3 : P * (n / P) = P * (Q * (n / P / Q)) + n / P % Q * P := by
      rw [Nat.mul_comm (n / P % Q) P, ← Nat.mul_add, h2]
    omega
  rw [e, Nat.mul_add_div hP, Nat.div_eq_of_lt (Nat.mod_lt _ hP), Nat.add_zero, Nat.mul_mod_right]
theorem lt_u64 {n : Nat} (h : n < 18446744073709551616) : n < 2 ^ IntKind.u64.bits := h
theorem movk_gen (n b lo : Nat) (hl : lo + 16 ≤ 64) (hn : n < 18446744073709551616) (hb : b < 65536) : Go.bits .or .u64 (Go.bits .andNot .u64 (n : Int) (((2 ^ 16 - 1) * 2 ^ lo : Nat) : Int)) ((b * 2 ^ lo : Nat) : Int) = ((n - n / 2 ^ lo % 2 ^ 16 * 2 ^ lo + b * 2 ^ lo : Nat) : Int) := by
  have h1 : b * 2 ^ lo < 18446744073709551616 := by
    have h1 : b * 2 ^ lo < 2 ^ 16 * 2 ^ lo := Nat.mul_lt_mul_of_pos_right (by omega) (Nat.two_pow_pos lo)
    rw [← Nat.pow_add] at h1
    exact Nat.lt_of_lt_of_le h1 (Nat.pow_le_pow_right (j := 64) (by decide) (by omega))
  rw [nat_andNot .u64 n lo 16 rfl (lt_u64 hn) (by show 16 + lo ≤ 64; omega), nat_or .u64 _ _ rfl (lt_u64 (by omega)) (lt_u64 h1), or_apart _ lo 16 b hb (clear0 n _ _ (Nat.two_pow_pos lo) (Nat.two_pow_pos 16))]
theorem mask_at (p : Nat) (hp : p < 4) : w64 (65535 * shM (p : Int)) = (((2 ^ 16 - 1) * 2 ^ (16 * p) : Nat) : Int) := by
  rw [sh_at p hp, u64w]
  match p, hp with
  | 0, _ => rfl
  | 1, _ => rfl
  | 2, _ => rfl
  | 3, _ => rfl
  | p + 4, h => omega
theorem movz_at (p : Nat) (hp : p < 4) (b : Nat) (h1 : b < 65536) : w64 (w64 (b : Int) * shM (p : Int)) = ((b * 2 ^ (16 * p) : Nat) : Int) := by
  rw [sh_at p hp, u64w (b : Int), u64w]
  match p, hp with
  | 0, _ => simp only [Nat.reduceMul, Nat.reducePow]; omega
  | 1, _ => simp only [Nat.reduceMul, Nat.reducePow]; omega
  | 2, _ => simp only [Nat.reduceMul, Nat.reducePow]; omega
  | 3, _ => simp only [Nat.reduceMul, Nat.reducePow]; omega
  | p + 4, h => omega
theorem movk_ok (p : Nat) (hp : p < 4) (x a : Int) (x0 : 0 ≤ x) (x1 : x < 18446744073709551616) (h0 : 0 ≤ a) (h1 : a < 65536) :
    Go.bits .or .u64 (Go.bits .andNot .u64 x (w64 (65535 * shM (p : Int)))) (w64 (w64 a * shM (p : Int))) = lay x p a := by
  obtain ⟨n, rfl⟩ := Int.eq_ofNat_of_zero_le x0
  obtain ⟨b, rfl⟩ := Int.eq_ofNat_of_zero_le h0
  rw [mask_at p hp, movz_at p hp b (by omega), movk_gen n b (16 * p) (by omega) (by omega) (by omega)]
  match p, hp with
  | 0, _ => unfold lay; simp only [Nat.reduceMul, Nat.reducePow]; omega
  | 1, _ => unfold lay; simp only [Nat.reduceMul, Nat.reducePow]; omega
  | 2, _ => unfold lay; simp only [Nat.reduceMul, Nat.reducePow]; omega
  | 3, _ => unfold lay; simp only [Nat.reduceMul, Nat.reducePow]; omega
  | p + 4, h => omega
theorem part_at (v : Int) (p : Nat) (hp : p < 4) (v0 : 0 ≤ v) (v1 : v < 18446744073709551616) : part v p = v / ((2 ^ (16 * p) : Nat) : Int) % 65536 := by
  unfold part
  have key : ∀ q : Int, 0 ≤ q → q < 18446744073709551616 → IntKind.i64.wrap (Go.bits .and .u64 q 65535) = q % 65536 := by
    intro q q0 q1
    obtain ⟨n, rfl⟩ := Int.eq_ofNat_of_zero_le q0
    have e : Go.bits .and .u64 (n : Int) 65535 = ((n &&& ((2 ^ 16 - 1) * 2 ^ 0) : Nat) : Int) := nat_and .u64 n _ rfl (by show n < 18446744073709551616; omega) (by decide)
    rw [e, and_mask n 0 16]
    show IntKind.i64.wrap ((n / 1 % 65536 * 1 : Nat) : Int) = _
    rw [wrap_i64_in (by omega) (by omega)]
    omega
  have hf : v.fdiv (2 ^ (16 * p)) = v / ((2 ^ (16 * p) : Nat) : Int) := by
    rw [Int.fdiv_eq_ediv_of_nonneg _ (by exact_mod_cast Nat.zero_le _)]
    norm_cast
  rw [hf]
  refine key _ ?_ ?_
  · exact Int.ediv_nonneg v0 (by exact_mod_cast Nat.zero_le _)
  · have : v / ((2 ^ (16 * p) : Nat) : Int) ≤ v := Int.ediv_le_self _ v0
    omega
end Go.Proofs.Ytolohpkjpgbahaa.semParts
end
section
/- SemParts: the loop, for each order of the parts. Printed by genparts.py. -/
set_option linter.unusedVariables false
set_option linter.unusedSimpArgs false
namespace Go.Proofs.Ytolohpkjpgbahaa.semParts
open Go Go.Proofs Go.Proofs.YtolohpkjpgbahaaRL Go.Proofs.Ytolohpkjpgbahaa.isa
abbrev KB : Ex → St → Prop := bodyK False Try.prog (funcOf Try.prog 5) (rK fun v => v = .raw (.bool true))
noncomputable abbrev st0 (v d : Int) (x : Nat → Int) (nf zf cf vf : Bool) (o : V) : St := ⟨(funcOf Try.prog 5).ntmps, zipArgs 0 [.raw (.int .u64 v), .raw (.int .i64 d), regs x nf zf cf vf, o], []⟩
def preM (d : Int) (m : Nat) (l1 l2 l3 : List (Nat × Nat)) (T P : Prop) : Prop := Br (decide (d < 0)) T (Br (decide (d > 30)) T (okM m l1 (okM m l2 (okM m l3 (okM m [] P)))))
def four_ok (a b c q : Nat) : Prop := ∀ v : Int, 0 ≤ v → v < 18446744073709551616 → lay (lay (lay (lay 0 a (part v a)) b (part v b)) c (part v c)) q (part v q) = v
set_option maxRecDepth 1000000 in
theorem pre_000 (v d : Int) (x : Nat → Int) (nf zf cf vf : Bool) (m : Nat) (Z : St → Prop) : evTo Try.prog EP 100 0 (fun st => Z (gcSt 0 live st)) [0,0,0,0,0,0,0] cd (st0 v d x nf zf cf vf (.md .i64 m [(0,4),(0,3),(0,2),(0,1)])) KB =
    preM d m [(0,3),(0,2),(0,1)] [(0,2),(0,1)] [(0,1)] (V.raw (.bool true) = V.raw (.bool true)) (Z (SE v d (four v d 0 1 2 3 (ef x nf zf cf vf)) (ef x nf zf cf vf))) := by kernel_rfl
theorem four_000 : four_ok 0 1 2 3 := by
  intro v v0 v1
  rw [part_at v 0 (by decide) v0 v1, part_at v 1 (by decide) v0 v1, part_at v 2 (by decide) v0 v1, part_at v 3 (by decide) v0 v1]
  simp only [lay, Nat.reduceMul, Nat.reducePow, Int.cast_ofNat_Int]
  omega
set_option maxRecDepth 1000000 in
theorem pre_001 (v d : Int) (x : Nat → Int) (nf zf cf vf : Bool) (m : Nat) (Z : St → Prop) : evTo Try.prog EP 100 0 (fun st => Z (gcSt 0 live st)) [0,0,0,0,0,0,0] cd (st0 v d x nf zf cf vf (.md .i64 m [(0,4),(0,3),(1,2),(0,1)])) KB =
    preM d m [(0,3),(1,2),(0,1)] [(1,2),(0,1)] [(0,1)] (V.raw (.bool true) = V.raw (.bool true)) (Z (SE v d (four v d 0 1 3 2 (ef x nf zf cf vf)) (ef x nf zf cf vf))) := by kernel_rfl
theorem four_001 : four_ok 0 1 3 2 := by
  intro v v0 v1
  rw [part_at v 0 (by decide) v0 v1, part_at v 1 (by decide) v0 v1, part_at v 2 (by decide) v0 v1, part_at v 3 (by decide) v0 v1]
  simp only [lay, Nat.reduceMul, Nat.reducePow, Int.cast_ofNat_Int]
  omega
set_option maxRecDepth 1000000 in
theorem pre_010 (v d : Int) (x : Nat → Int) (nf zf cf vf : Bool) (m : Nat) (Z : St → Prop) : evTo Try.prog EP 100 0 (fun st => Z (gcSt 0 live st)) [0,0,0,0,0,0,0] cd (st0 v d x nf zf cf vf (.md .i64 m [(0,4),(1,3),(0,2),(0,1)])) KB =
    preM d m [(1,3),(0,2),(0,1)] [(0,2),(0,1)] [(0,1)] (V.raw (.bool true) = V.raw (.bool true)) (Z (SE v d (four v d 0 2 1 3 (ef x nf zf cf vf)) (ef x nf zf cf vf))) := by kernel_rfl
theorem four_010 : four_ok 0 2 1 3 := by
  intro v v0 v1
  rw [part_at v 0 (by decide) v0 v1, part_at v 1 (by decide) v0 v1, part_at v 2 (by decide) v0 v1, part_at v 3 (by decide) v0 v1]
  simp only [lay, Nat.reduceMul, Nat.reducePow, Int.cast_ofNat_Int]
  omega
set_option maxRecDepth 1000000 in
theorem pre_011 (v d : Int) (x : Nat → Int) (nf zf cf vf : Bool) (m : Nat) (Z : St → Prop) : evTo Try.prog EP 100 0 (fun st => Z (gcSt 0 live st)) [0,0,0,0,0,0,0] cd (st0 v d x nf zf cf vf (.md .i64 m [(0,4),(1,3),(1,2),(0,1)])) KB =
    preM d m [(1,3),(1,2),(0,1)] [(1,2),(0,1)] [(0,1)] (V.raw (.bool true) = V.raw (.bool true)) (Z (SE v d (four v d 0 2 3 1 (ef x nf zf cf vf)) (ef x nf zf cf vf))) := by kernel_rfl
theorem four_011 : four_ok 0 2 3 1 := by
  intro v v0 v1
  rw [part_at v 0 (by decide) v0 v1, part_at v 1 (by decide) v0 v1, part_at v 2 (by decide) v0 v1, part_at v 3 (by decide) v0 v1]
  simp only [lay, Nat.reduceMul, Nat.reducePow, Int.cast_ofNat_Int]
  omega
set_option maxRecDepth 1000000 in
theorem pre_020 (v d : Int) (x : Nat → Int) (nf zf cf vf : Bool) (m : Nat) (Z : St → Prop) : evTo Try.prog EP 100 0 (fun st => Z (gcSt 0 live st)) [0,0,0,0,0,0,0] cd (st0 v d x nf zf cf vf (.md .i64 m [(0,4),(2,3),(0,2),(0,1)])) KB =
    preM d m [(2,3),(0,2),(0,1)] [(0,2),(0,1)] [(0,1)] (V.raw (.bool true) = V.raw (.bool true)) (Z (SE v d (four v d 0 3 1 2 (ef x nf zf cf vf)) (ef x nf zf cf vf))) := by kernel_rfl
theorem four_020 : four_ok 0 3 1 2 := by
  intro v v0 v1
  rw [part_at v 0 (by decide) v0 v1, part_at v 1 (by decide) v0 v1, part_at v 2 (by decide) v0 v1, part_at v 3 (by decide) v0 v1]
  simp only [lay, Nat.reduceMul, Nat.reducePow, Int.cast_ofNat_Int]
  omega
set_option maxRecDepth 1000000 in
theorem pre_021 (v d : Int) (x : Nat → Int) (nf zf cf vf : Bool) (m : Nat) (Z : St → Prop) : evTo Try.prog EP 100 0 (fun st => Z (gcSt 0 live st)) [0,0,0,0,0,0,0] cd (st0 v d x nf zf cf vf (.md .i64 m [(0,4),(2,3),(1,2),(0,1)])) KB =
    preM d m [(2,3),(1,2),(0,1)] [(1,2),(0,1)] [(0,1)] (V.raw (.bool true) = V.raw (.bool true)) (Z (SE v d (four v d 0 3 2 1 (ef x nf zf cf vf)) (ef x nf zf cf vf))) := by kernel_rfl
theorem four_021 : four_ok 0 3 2 1 := by
  intro v v0 v1
  rw [part_at v 0 (by decide) v0 v1, part_at v 1 (by decide) v0 v1, part_at v 2 (by decide) v0 v1, part_at v 3 (by decide) v0 v1]
  simp only [lay, Nat.reduceMul, Nat.reducePow, Int.cast_ofNat_Int]
  omega
set_option maxRecDepth 1000000 in
theorem pre_100 (v d : Int) (x : Nat → Int) (nf zf cf vf : Bool) (m : Nat) (Z : St → Prop) : evTo Try.prog EP 100 0 (fun st => Z (gcSt 0 live st)) [0,0,0,0,0,0,0] cd (st0 v d x nf zf cf vf (.md .i64 m [(1,4),(0,3),(0,2),(0,1)])) KB =
    preM d m [(0,3),(0,2),(0,1)] [(0,2),(0,1)] [(0,1)] (V.raw (.bool true) = V.raw (.bool true)) (Z (SE v d (four v d 1 0 2 3 (ef x nf zf cf vf)) (ef x nf zf cf vf))) := by kernel_rfl
theorem four_100 : four_ok 1 0 2 3 := by
  intro v v0 v1
  rw [part_at v 0 (by decide) v0 v1, part_at v 1 (by decide) v0 v1, part_at v 2 (by decide) v0 v1, part_at v 3 (by decide) v0 v1]
  simp only [lay, Nat.reduceMul, Nat.reducePow, Int.cast_ofNat_Int]
  omega
set_option maxRecDepth 1000000 in
theorem pre_101 (v d : Int) (x : Nat → Int) (nf zf cf vf : Bool) (m : Nat) (Z : St → Prop) : evTo Try.prog EP 100 0 (fun st => Z (gcSt 0 live st)) [0,0,0,0,0,0,0] cd (st0 v d x nf zf cf vf (.md .i64 m [(1,4),(0,3),(1,2),(0,1)])) KB =
    preM d m [(0,3),(1,2),(0,1)] [(1,2),(0,1)] [(0,1)] (V.raw (.bool true) = V.raw (.bool true)) (Z (SE v d (four v d 1 0 3 2 (ef x nf zf cf vf)) (ef x nf zf cf vf))) := by kernel_rfl
theorem four_101 : four_ok 1 0 3 2 := by
  intro v v0 v1
  rw [part_at v 0 (by decide) v0 v1, part_at v 1 (by decide) v0 v1, part_at v 2 (by decide) v0 v1, part_at v 3 (by decide) v0 v1]
  simp only [lay, Nat.reduceMul, Nat.reducePow, Int.cast_ofNat_Int]
  omega
set_option maxRecDepth 1000000 in
theorem pre_110 (v d : Int) (x : Nat → Int) (nf zf cf vf : Bool) (m : Nat) (Z : St → Prop) : evTo Try.prog EP 100 0 (fun st => Z (gcSt 0 live st)) [0,0,0,0,0,0,0] cd (st0 v d x nf zf cf vf (.md .i64 m [(1,4),(1,3),(0,2),(0,1)])) KB =
    preM d m [(1,3),(0,2),(0,1)] [(0,2),(0,1)] [(0,1)] (V.raw (.bool true) = V.raw (.bool true)) (Z (SE v d (four v d 1 2 0 3 (ef x nf zf cf vf)) (ef x nf zf cf vf))) := by kernel_rfl
theorem four_110 : four_ok 1 2 0 3 := by
  intro v v0 v1
  rw [part_at v 0 (by decide) v0 v1, part_at v 1 (by decide) v0 v1, part_at v 2 (by decide) v0 v1, part_at v 3 (by decide) v0 v1]
  simp only [lay, Nat.reduceMul, Nat.reducePow, Int.cast_ofNat_Int]
  omega
set_option maxRecDepth 1000000 in
theorem pre_111 (v d : Int) (x : Nat → Int) (nf zf cf vf : Bool) (m : Nat) (Z : St → Prop) : evTo Try.prog EP 100 0 (fun st => Z (gcSt 0 live st)) [0,0,0,0,0,0,0] cd (st0 v d x nf zf cf vf (.md .i64 m [(1,4),(1,3),(1,2),(0,1)])) KB =
    preM d m [(1,3),(1,2),(0,1)] [(1,2),(0,1)] [(0,1)] (V.raw (.bool true) = V.raw (.bool true)) (Z (SE v d (four v d 1 2 3 0 (ef x nf zf cf vf)) (ef x nf zf cf vf))) := by kernel_rfl
theorem four_111 : four_ok 1 2 3 0 := by
  intro v v0 v1
  rw [part_at v 0 (by decide) v0 v1, part_at v 1 (by decide) v0 v1, part_at v 2 (by decide) v0 v1, part_at v 3 (by decide) v0 v1]
  simp only [lay, Nat.reduceMul, Nat.reducePow, Int.cast_ofNat_Int]
  omega
set_option maxRecDepth 1000000 in
theorem pre_120 (v d : Int) (x : Nat → Int) (nf zf cf vf : Bool) (m : Nat) (Z : St → Prop) : evTo Try.prog EP 100 0 (fun st => Z (gcSt 0 live st)) [0,0,0,0,0,0,0] cd (st0 v d x nf zf cf vf (.md .i64 m [(1,4),(2,3),(0,2),(0,1)])) KB =
    preM d m [(2,3),(0,2),(0,1)] [(0,2),(0,1)] [(0,1)] (V.raw (.bool true) = V.raw (.bool true)) (Z (SE v d (four v d 1 3 0 2 (ef x nf zf cf vf)) (ef x nf zf cf vf))) := by kernel_rfl
theorem four_120 : four_ok 1 3 0 2 := by
  intro v v0 v1
  rw [part_at v 0 (by decide) v0 v1, part_at v 1 (by decide) v0 v1, part_at v 2 (by decide) v0 v1, part_at v 3 (by decide) v0 v1]
  simp only [lay, Nat.reduceMul, Nat.reducePow, Int.cast_ofNat_Int]
  omega
set_option maxRecDepth 1000000 in
theorem pre_121 (v d : Int) (x : Nat → Int) (nf zf cf vf : Bool) (m : Nat) (Z : St → Prop) : evTo Try.prog EP 100 0 (fun st => Z (gcSt 0 live st)) [0,0,0,0,0,0,0] cd (st0 v d x nf zf cf vf (.md .i64 m [(1,4),(2,3),(1,2),(0,1)])) KB =
    preM d m [(2,3),(1,2),(0,1)] [(1,2),(0,1)] [(0,1)] (V.raw (.bool true) = V.raw (.bool true)) (Z (SE v d (four v d 1 3 2 0 (ef x nf zf cf vf)) (ef x nf zf cf vf))) := by kernel_rfl
theorem four_121 : four_ok 1 3 2 0 := by
  intro v v0 v1
  rw [part_at v 0 (by decide) v0 v1, part_at v 1 (by decide) v0 v1, part_at v 2 (by decide) v0 v1, part_at v 3 (by decide) v0 v1]
  simp only [lay, Nat.reduceMul, Nat.reducePow, Int.cast_ofNat_Int]
  omega
set_option maxRecDepth 1000000 in
theorem pre_200 (v d : Int) (x : Nat → Int) (nf zf cf vf : Bool) (m : Nat) (Z : St → Prop) : evTo Try.prog EP 100 0 (fun st => Z (gcSt 0 live st)) [0,0,0,0,0,0,0] cd (st0 v d x nf zf cf vf (.md .i64 m [(2,4),(0,3),(0,2),(0,1)])) KB =
    preM d m [(0,3),(0,2),(0,1)] [(0,2),(0,1)] [(0,1)] (V.raw (.bool true) = V.raw (.bool true)) (Z (SE v d (four v d 2 0 1 3 (ef x nf zf cf vf)) (ef x nf zf cf vf))) := by kernel_rfl
theorem four_200 : four_ok 2 0 1 3 := by
  intro v v0 v1
  rw [part_at v 0 (by decide) v0 v1, part_at v 1 (by decide) v0 v1, part_at v 2 (by decide) v0 v1, part_at v 3 (by decide) v0 v1]
  simp only [lay, Nat.reduceMul, Nat.reducePow, Int.cast_ofNat_Int]
  omega
set_option maxRecDepth 1000000 in
theorem pre_201 (v d : Int) (x : Nat → Int) (nf zf cf vf : Bool) (m : Nat) (Z : St → Prop) : evTo Try.prog EP 100 0 (fun st => Z (gcSt 0 live st)) [0,0,0,0,0,0,0] cd (st0 v d x nf zf cf vf (.md .i64 m [(2,4),(0,3),(1,2),(0,1)])) KB =
    preM d m [(0,3),(1,2),(0,1)] [(1,2),(0,1)] [(0,1)] (V.raw (.bool true) = V.raw (.bool true)) (Z (SE v d (four v d 2 0 3 1 (ef x nf zf cf vf)) (ef x nf zf cf vf))) := by kernel_rfl
theorem four_201 : four_ok 2 0 3 1 := by
  intro v v0 v1
  rw [part_at v 0 (by decide) v0 v1, part_at v 1 (by decide) v0 v1, part_at v 2 (by decide) v0 v1, part_at v 3 (by decide) v0 v1]
  simp only [lay, Nat.reduceMul, Nat.reducePow, Int.cast_ofNat_Int]
  omega
set_option maxRecDepth 1000000 in
theorem pre_210 (v d : Int) (x : Nat → Int) (nf zf cf vf : Bool) (m : Nat) (Z : St → Prop) : evTo Try.prog EP 100 0 (fun st => Z (gcSt 0 live st)) [0,0,0,0,0,0,0] cd (st0 v d x nf zf cf vf (.md .i64 m [(2,4),(1,3),(0,2),(0,1)])) KB =
    preM d m [(1,3),(0,2),(0,1)] [(0,2),(0,1)] [(0,1)] (V.raw (.bool true) = V.raw (.bool true)) (Z (SE v d (four v d 2 1 0 3 (ef x nf zf cf vf)) (ef x nf zf cf vf))) := by kernel_rfl
theorem four_210 : four_ok 2 1 0 3 := by
  intro v v0 v1
  rw [part_at v 0 (by decide) v0 v1, part_at v 1 (by decide) v0 v1, part_at v 2 (by decide) v0 v1, part_at v 3 (by decide) v0 v1]
  simp only [lay, Nat.reduceMul, Nat.reducePow, Int.cast_ofNat_Int]
  omega
set_option maxRecDepth 1000000 in
theorem pre_211 (v d : Int) (x : Nat → Int) (nf zf cf vf : Bool) (m : Nat) (Z : St → Prop) : evTo Try.prog EP 100 0 (fun st => Z (gcSt 0 live st)) [0,0,0,0,0,0,0] cd (st0 v d x nf zf cf vf (.md .i64 m [(2,4),(1,3),(1,2),(0,1)])) KB =
    preM d m [(1,3),(1,2),(0,1)] [(1,2),(0,1)] [(0,1)] (V.raw (.bool true) = V.raw (.bool true)) (Z (SE v d (four v d 2 1 3 0 (ef x nf zf cf vf)) (ef x nf zf cf vf))) := by kernel_rfl
theorem four_211 : four_ok 2 1 3 0 := by
  intro v v0 v1
  rw [part_at v 0 (by decide) v0 v1, part_at v 1 (by decide) v0 v1, part_at v 2 (by decide) v0 v1, part_at v 3 (by decide) v0 v1]
  simp only [lay, Nat.reduceMul, Nat.reducePow, Int.cast_ofNat_Int]
  omega
set_option maxRecDepth 1000000 in
theorem pre_220 (v d : Int) (x : Nat → Int) (nf zf cf vf : Bool) (m : Nat) (Z : St → Prop) : evTo Try.prog EP 100 0 (fun st => Z (gcSt 0 live st)) [0,0,0,0,0,0,0] cd (st0 v d x nf zf cf vf (.md .i64 m [(2,4),(2,3),(0,2),(0,1)])) KB =
    preM d m [(2,3),(0,2),(0,1)] [(0,2),(0,1)] [(0,1)] (V.raw (.bool true) = V.raw (.bool true)) (Z (SE v d (four v d 2 3 0 1 (ef x nf zf cf vf)) (ef x nf zf cf vf))) := by kernel_rfl
theorem four_220 : four_ok 2 3 0 1 := by
  intro v v0 v1
  rw [part_at v 0 (by decide) v0 v1, part_at v 1 (by decide) v0 v1, part_at v 2 (by decide) v0 v1, part_at v 3 (by decide) v0 v1]
  simp only [lay, Nat.reduceMul, Nat.reducePow, Int.cast_ofNat_Int]
  omega
set_option maxRecDepth 1000000 in
theorem pre_221 (v d : Int) (x : Nat → Int) (nf zf cf vf : Bool) (m : Nat) (Z : St → Prop) : evTo Try.prog EP 100 0 (fun st => Z (gcSt 0 live st)) [0,0,0,0,0,0,0] cd (st0 v d x nf zf cf vf (.md .i64 m [(2,4),(2,3),(1,2),(0,1)])) KB =
    preM d m [(2,3),(1,2),(0,1)] [(1,2),(0,1)] [(0,1)] (V.raw (.bool true) = V.raw (.bool true)) (Z (SE v d (four v d 2 3 1 0 (ef x nf zf cf vf)) (ef x nf zf cf vf))) := by kernel_rfl
theorem four_221 : four_ok 2 3 1 0 := by
  intro v v0 v1
  rw [part_at v 0 (by decide) v0 v1, part_at v 1 (by decide) v0 v1, part_at v 2 (by decide) v0 v1, part_at v 3 (by decide) v0 v1]
  simp only [lay, Nat.reduceMul, Nat.reducePow, Int.cast_ofNat_Int]
  omega
set_option maxRecDepth 1000000 in
theorem pre_300 (v d : Int) (x : Nat → Int) (nf zf cf vf : Bool) (m : Nat) (Z : St → Prop) : evTo Try.prog EP 100 0 (fun st => Z (gcSt 0 live st)) [0,0,0,0,0,0,0] cd (st0 v d x nf zf cf vf (.md .i64 m [(3,4),(0,3),(0,2),(0,1)])) KB =
    preM d m [(0,3),(0,2),(0,1)] [(0,2),(0,1)] [(0,1)] (V.raw (.bool true) = V.raw (.bool true)) (Z (SE v d (four v d 3 0 1 2 (ef x nf zf cf vf)) (ef x nf zf cf vf))) := by kernel_rfl
theorem four_300 : four_ok 3 0 1 2 := by
  intro v v0 v1
  rw [part_at v 0 (by decide) v0 v1, part_at v 1 (by decide) v0 v1, part_at v 2 (by decide) v0 v1, part_at v 3 (by decide) v0 v1]
  simp only [lay, Nat.reduceMul, Nat.reducePow, Int.cast_ofNat_Int]
  omega
set_option maxRecDepth 1000000 in
theorem pre_301 (v d : Int) (x : Nat → Int) (nf zf cf vf : Bool) (m : Nat) (Z : St → Prop) : evTo Try.prog EP 100 0 (fun st => Z (gcSt 0 live st)) [0,0,0,0,0,0,0] cd (st0 v d x nf zf cf vf (.md .i64 m [(3,4),(0,3),(1,2),(0,1)])) KB =
    preM d m [(0,3),(1,2),(0,1)] [(1,2),(0,1)] [(0,1)] (V.raw (.bool true) = V.raw (.bool true)) (Z (SE v d (four v d 3 0 2 1 (ef x nf zf cf vf)) (ef x nf zf cf vf))) := by kernel_rfl
theorem four_301 : four_ok 3 0 2 1 := by
  intro v v0 v1
  rw [part_at v 0 (by decide) v0 v1, part_at v 1 (by decide) v0 v1, part_at v 2 (by decide) v0 v1, part_at v 3 (by decide) v0 v1]
  simp only [lay, Nat.reduceMul, Nat.reducePow, Int.cast_ofNat_Int]
  omega
set_option maxRecDepth 1000000 in
theorem pre_310 (v d : Int) (x : Nat → Int) (nf zf cf vf : Bool) (m : Nat) (Z : St → Prop) : evTo Try.prog EP 100 0 (fun st => Z (gcSt 0 live st)) [0,0,0,0,0,0,0] cd (st0 v d x nf zf cf vf (.md .i64 m [(3,4),(1,3),(0,2),(0,1)])) KB =
    preM d m [(1,3),(0,2),(0,1)] [(0,2),(0,1)] [(0,1)] (V.raw (.bool true) = V.raw (.bool true)) (Z (SE v d (four v d 3 1 0 2 (ef x nf zf cf vf)) (ef x nf zf cf vf))) := by kernel_rfl
theorem four_310 : four_ok 3 1 0 2 := by
  intro v v0 v1
  rw [part_at v 0 (by decide) v0 v1, part_at v 1 (by decide) v0 v1, part_at v 2 (by decide) v0 v1, part_at v 3 (by decide) v0 v1]
  simp only [lay, Nat.reduceMul, Nat.reducePow, Int.cast_ofNat_Int]
  omega
set_option maxRecDepth 1000000 in
theorem pre_311 (v d : Int) (x : Nat → Int) (nf zf cf vf : Bool) (m : Nat) (Z : St → Prop) : evTo Try.prog EP 100 0 (fun st => Z (gcSt 0 live st)) [0,0,0,0,0,0,0] cd (st0 v d x nf zf cf vf (.md .i64 m [(3,4),(1,3),(1,2),(0,1)])) KB =
    preM d m [(1,3),(1,2),(0,1)] [(1,2),(0,1)] [(0,1)] (V.raw (.bool true) = V.raw (.bool true)) (Z (SE v d (four v d 3 1 2 0 (ef x nf zf cf vf)) (ef x nf zf cf vf))) := by kernel_rfl
theorem four_311 : four_ok 3 1 2 0 := by
  intro v v0 v1
  rw [part_at v 0 (by decide) v0 v1, part_at v 1 (by decide) v0 v1, part_at v 2 (by decide) v0 v1, part_at v 3 (by decide) v0 v1]
  simp only [lay, Nat.reduceMul, Nat.reducePow, Int.cast_ofNat_Int]
  omega
set_option maxRecDepth 1000000 in
theorem pre_320 (v d : Int) (x : Nat → Int) (nf zf cf vf : Bool) (m : Nat) (Z : St → Prop) : evTo Try.prog EP 100 0 (fun st => Z (gcSt 0 live st)) [0,0,0,0,0,0,0] cd (st0 v d x nf zf cf vf (.md .i64 m [(3,4),(2,3),(0,2),(0,1)])) KB =
    preM d m [(2,3),(0,2),(0,1)] [(0,2),(0,1)] [(0,1)] (V.raw (.bool true) = V.raw (.bool true)) (Z (SE v d (four v d 3 2 0 1 (ef x nf zf cf vf)) (ef x nf zf cf vf))) := by kernel_rfl
theorem four_320 : four_ok 3 2 0 1 := by
  intro v v0 v1
  rw [part_at v 0 (by decide) v0 v1, part_at v 1 (by decide) v0 v1, part_at v 2 (by decide) v0 v1, part_at v 3 (by decide) v0 v1]
  simp only [lay, Nat.reduceMul, Nat.reducePow, Int.cast_ofNat_Int]
  omega
set_option maxRecDepth 1000000 in
theorem pre_321 (v d : Int) (x : Nat → Int) (nf zf cf vf : Bool) (m : Nat) (Z : St → Prop) : evTo Try.prog EP 100 0 (fun st => Z (gcSt 0 live st)) [0,0,0,0,0,0,0] cd (st0 v d x nf zf cf vf (.md .i64 m [(3,4),(2,3),(1,2),(0,1)])) KB =
    preM d m [(2,3),(1,2),(0,1)] [(1,2),(0,1)] [(0,1)] (V.raw (.bool true) = V.raw (.bool true)) (Z (SE v d (four v d 3 2 1 0 (ef x nf zf cf vf)) (ef x nf zf cf vf))) := by kernel_rfl
theorem four_321 : four_ok 3 2 1 0 := by
  intro v v0 v1
  rw [part_at v 0 (by decide) v0 v1, part_at v 1 (by decide) v0 v1, part_at v 2 (by decide) v0 v1, part_at v 3 (by decide) v0 v1]
  simp only [lay, Nat.reduceMul, Nat.reducePow, Int.cast_ofNat_Int]
  omega
set_option maxRecDepth 1000000 in
theorem pre_neg0 (v d : Int) (x : Nat → Int) (nf zf cf vf : Bool) (Z : St → Prop) : evTo Try.prog EP 100 0 (fun st => Z (gcSt 0 live st)) [0,0,0,0,0,0,0] cd (st0 v d x nf zf cf vf (.raw (.int .i64 (Int.negSucc 0)))) KB =
    Br (decide (d < 0)) (V.raw (.bool true) = V.raw (.bool true)) (Br (decide (d > 30)) (V.raw (.bool true) = V.raw (.bool true)) (Z (SE v d (four v d 0 1 2 3 (ef x nf zf cf vf)) (ef x nf zf cf vf)))) := by kernel_rfl
set_option maxRecDepth 1000000 in
theorem pre_neg1 (v d : Int) (x : Nat → Int) (nf zf cf vf : Bool) (k : Nat) (Z : St → Prop) : evTo Try.prog EP 100 0 (fun st => Z (gcSt 0 live st)) [0,0,0,0,0,0,0] cd (st0 v d x nf zf cf vf (.raw (.int .i64 (Int.negSucc (k + 1))))) KB =
    Br (decide (d < 0)) (V.raw (.bool true) = V.raw (.bool true)) (Br (decide (d > 30)) (V.raw (.bool true) = V.raw (.bool true)) (Z (SE v d (four v d 0 1 2 3 (ef x nf zf cf vf)) (ef x nf zf cf vf)))) := by kernel_rfl
def upN (x : Nat → Int) (k : Nat) (v : Int) (i : Nat) : Int := match Nat.beq i k with
  | true => v
  | false => x i
set_option maxRecDepth 1000000 in
theorem post_eq (v d : Int) (e f : Eff) (K : V → Prop) : evG Try.prog EP 100 (subAt [0,0,0,0,0,0,0] cd) (SE v d e f) (bodyK False Try.prog (funcOf Try.prog 5) (rK K)) =
    Br (decide (0 ≤ d)) (Br (decide (d < 31)) (splI d (fun k => K (.raw (.bool (eqR e.x (upN f.x k v) e.nf e.zf e.cf e.vf f.nf f.zf f.cf f.vf)))) 30 0) False) False := by kernel_rfl
end Go.Proofs.Ytolohpkjpgbahaa.semParts
end
section
/- SemParts: the law's function tells true. -/
set_option linter.unusedVariables false
set_option linter.unusedSimpArgs false
set_option maxRecDepth 100000
namespace Go.Proofs.Ytolohpkjpgbahaa.semParts
open Go Go.Proofs Go.Proofs.YtolohpkjpgbahaaRL Go.Proofs.Ytolohpkjpgbahaa.isa
/-- Registers x, with y in register d. -/
structure Inv (x : Nat → Int) (nf zf cf vf : Bool) (d y : Int) (e : Eff) : Prop where
  at_ : ∀ i : Nat, i < 32 → e.x i = if (i : Int) = d then y else x i
  n : e.nf = nf
  z : e.zf = zf
  c : e.cf = cf
  v : e.vf = vf
theorem ok_chk {op d im : Int} {p : Nat} (ho : op = 2 ∨ op = 3) (d0 : 0 ≤ d) (d1 : d ≤ 30) (hp : p < 4) (i0 : 0 ≤ im) (i1 : im < 65536) : chkV op d 0 (p : Nat) 0 0 im = 0 := by
  unfold chkV
  refine if_pos ?_
  rcases ho with rfl | rfl
  all_goals
    refine ⟨by omega, ?_⟩
    show (0 ≤ d ∧ d ≤ 31) ∧ (0 : Int) = 0 ∧ (0 ≤ (p : Int) ∧ (p : Int) ≤ 31) ∧ (0 : Int) = 0 ∧ (0 : Int) = 0 ∧ True ∧ (0 ≤ im ∧ im < 65536 ∧ (p : Int) ≤ 3)
    exact ⟨by omega, rfl, by omega, rfl, rfl, trivial, by omega⟩
theorem part_in (v : Int) (p : Nat) (hp : p < 4) (v0 : 0 ≤ v) (v1 : v < 18446744073709551616) : 0 ≤ part v p ∧ part v p < 65536 := by
  rw [part_at v p hp v0 v1]
  omega
theorem setX_at {x : Nat → Int} {d v : Int} (d0 : 0 ≤ d) (d1 : d ≤ 30) (i : Nat) : setX x d v i = if (i : Int) = d then v else x i := by
  unfold setX
  rw [decide_eq_true (show 0 ≤ d ∧ d < 31 by omega)]
  by_cases h : (i : Int) = d
  · rw [if_pos h, decide_eq_true h]
  · rw [if_neg h, decide_eq_false h]
theorem nx2 {x : Nat → Int} {nf zf cf vf : Bool} {v d y : Int} {p : Nat} {e : Eff} (v0 : 0 ≤ v) (v1 : v < 18446744073709551616) (d0 : 0 ≤ d) (d1 : d ≤ 30) (hp : p < 4) (h : Inv x nf zf cf vf d y e) : Inv x nf zf cf vf d (lay 0 p (part v p)) (nx 2 v d p e) := by
  obtain ⟨q0, q1⟩ := part_in v p hp v0 v1
  have e1 : nx 2 v d p e = ⟨setX (norm e.x) d (w64 (w64 (part v p) * shM (p : Int))), e.nf, e.zf, e.cf, e.vf, w64 (0 + 4), 0, 0, false⟩ := by
    unfold nx doV
    rw [if_pos (ok_chk (Or.inl rfl) d0 d1 hp q0 q1)]
    rfl
  rw [e1, movz_ok p hp _ q0 q1]
  refine ⟨fun i hi => ?_, h.n, h.z, h.c, h.v⟩
  show setX (norm e.x) d _ i = _
  rw [setX_at d0 d1, norm_at hi, h.at_ i hi]
  split <;> rfl
theorem nx3 {x : Nat → Int} {nf zf cf vf : Bool} {v d y : Int} {p : Nat} {e : Eff} (v0 : 0 ≤ v) (v1 : v < 18446744073709551616) (d0 : 0 ≤ d) (d1 : d ≤ 30) (hp : p < 4) (y0 : 0 ≤ y) (y1 : y < 18446744073709551616) (h : Inv x nf zf cf vf d y e) : Inv x nf zf cf vf d (lay y p (part v p)) (nx 3 v d p e) := by
  obtain ⟨q0, q1⟩ := part_in v p hp v0 v1
  have hg : getX (norm e.x) d = y := by
    rw [norm_get]
    unfold getX
    rw [decide_eq_true (show 0 ≤ d ∧ d < 31 by omega)]
    show e.x d.toNat = y
    rw [h.at_ _ (by omega), if_pos (by omega)]
  have e1 : nx 3 v d p e = ⟨setX (norm e.x) d (Go.bits .or .u64 (Go.bits .andNot .u64 (getX (norm e.x) d) (w64 (65535 * shM (p : Int)))) (w64 (w64 (part v p) * shM (p : Int)))), e.nf, e.zf, e.cf, e.vf, w64 (0 + 4), 0, 0, false⟩ := by
    unfold nx doV
    rw [if_pos (ok_chk (Or.inr rfl) d0 d1 hp q0 q1)]
    rfl
  rw [e1, hg, movk_ok p hp _ _ y0 y1 q0 q1]
  refine ⟨fun i hi => ?_, h.n, h.z, h.c, h.v⟩
  show setX (norm e.x) d _ i = _
  rw [setX_at d0 d1, norm_at hi, h.at_ i hi]
  split <;> rfl
theorem lay_in {y : Int} {p : Nat} {a : Int} (y0 : 0 ≤ y) (y1 : y < 18446744073709551616) (hp : p < 4) (a0 : 0 ≤ a) (a1 : a < 65536) : 0 ≤ lay y p a ∧ lay y p a < 18446744073709551616 := by
  match p, hp with
  | 0, _ => simp only [lay]; omega
  | 1, _ => simp only [lay]; omega
  | 2, _ => simp only [lay]; omega
  | 3, _ => simp only [lay]; omega
  | p + 4, h => omega
theorem four_inv {x : Nat → Int} {nf zf cf vf : Bool} {v d : Int} {a b c q : Nat} (v0 : 0 ≤ v) (v1 : v < 18446744073709551616) (d0 : 0 ≤ d) (d1 : d ≤ 30) (ha : a < 4) (hb : b < 4) (hc : c < 4) (hq : q < 4) (hf : four_ok a b c q) : Inv x nf zf cf vf d v (four v d a b c q (ef x nf zf cf vf)) := by
  have h0 : Inv x nf zf cf vf d (x d.toNat) (ef x nf zf cf vf) := ⟨fun i hi => by
    show x i = _
    by_cases h : (i : Int) = d
    · rw [if_pos h, show d.toNat = i by omega]
    · rw [if_neg h], rfl, rfl, rfl, rfl⟩
  have h1 := nx2 v0 v1 d0 d1 ha h0
  obtain ⟨p0, p1⟩ := part_in v a ha v0 v1
  obtain ⟨l0, l1⟩ := lay_in (y := 0) (by omega) (by omega) ha p0 p1
  have h2 := nx3 v0 v1 d0 d1 hb l0 l1 h1
  obtain ⟨p0, p1⟩ := part_in v b hb v0 v1
  obtain ⟨l0, l1⟩ := lay_in l0 l1 hb p0 p1
  have h3 := nx3 v0 v1 d0 d1 hc l0 l1 h2
  obtain ⟨p0, p1⟩ := part_in v c hc v0 v1
  obtain ⟨l0, l1⟩ := lay_in l0 l1 hc p0 p1
  have h4 := nx3 v0 v1 d0 d1 hq l0 l1 h3
  rw [hf v v0 v1] at h4
  exact h4
theorem splI_in {i : Int} {K : Nat → Prop} : ∀ {n k : Nat}, (k : Int) ≤ i → i ≤ ((k + n : Nat) : Int) → K i.toNat → splI i K n k := by
  intro n
  induction n with
  | zero => intro k h0 h1 h; rw [show i.toNat = k by omega] at h; exact h
  | succ n ih =>
    intro k h0 h1 h
    unfold splI
    by_cases hk : i = (k : Int)
    · rw [decide_eq_true hk]
      rw [show i.toNat = k by omega] at h; exact h
    · rw [decide_eq_false hk]
      exact ih (by omega) (by omega) h
theorem post_ok {x : Nat → Int} {nf zf cf vf : Bool} {v d : Int} {e : Eff} (d0 : 0 ≤ d) (d1 : d ≤ 30) (h : Inv x nf zf cf vf d v e) : evG Try.prog EP 100 (subAt [0,0,0,0,0,0,0] cd) (SE v d e (ef x nf zf cf vf)) KB := by
  have hp := post_eq v d e (ef x nf zf cf vf) fun u => u = .raw (.bool true)
  refine hp.mpr ?_
  rw [decide_eq_true d0, decide_eq_true (show d < 31 by omega)]
  refine splI_in (by omega) (by omega) ?_
  have hx : ∀ i : Nat, i < 32 → e.x i = upN x d.toNat v i := fun i hi => by
    rw [h.at_ i hi]
    unfold upN
    by_cases hid : (i : Int) = d
    · rw [if_pos hid, show Nat.beq i d.toNat = true by rw [show d.toNat = i by omega]; exact Nat.beq_refl i]
    · rw [if_neg hid]
      cases hb : Nat.beq i d.toNat with
      | true => have := Nat.eq_of_beq_eq_true hb; omega
      | false => rfl
  show V.raw (.bool (eqR e.x (upN x d.toNat v) e.nf e.zf e.cf e.vf nf zf cf vf)) = _
  rw [h.n, h.z, h.c, h.v]
  unfold eqR
  rw [eqN_same 31 0 fun j _ hj => hx j (by omega), hx 31 (by omega)]
  simp
theorem rK_ok {u : V} : ∀ (r : Res) (s : Sto), rK (fun v => v = u) r s → r = .ret u
  | .ret v, s, h => congrArg Res.ret h
  | .pan v, s, h => h.elim
theorem run_ok {x : Nat → Int} {nf zf cf vf : Bool} {v d : Int} {o : V} {a b c q : Nat} (v0 : 0 ≤ v) (v1 : v < 18446744073709551616) (hf : four_ok a b c q) (ha : a < 4) (hb : b < 4) (hc : c < 4) (hq : q < 4)
    (h : ∀ Z : St → Prop, (0 ≤ d → d ≤ 30 → Z (SE v d (four v d a b c q (ef x nf zf cf vf)) (ef x nf zf cf vf))) → evTo Try.prog EP 100 0 (fun st => Z (gcSt 0 live st)) [0,0,0,0,0,0,0] cd (st0 v d x nf zf cf vf o) KB) :
    CallOk Try.prog 5 [.raw (.int .u64 v), .raw (.int .i64 d), regs x nf zf cf vf, o] [] fun r _ => r = .ret (.raw (.bool true)) := by
  refine CallOk.mono (K := rK fun u => u = .raw (.bool true)) (CallOk.fnB names (by kernel_rfl) ?_) rK_ok
  refine evTo_ok EP_ok names mixed (n := 100) (b := 0) (Z := fun st => (0 ≤ d ∧ d ≤ 30) ∧ gcSt 0 live st = SE v d (four v d a b c q (ef x nf zf cf vf)) (ef x nf zf cf vf)) [0,0,0,0,0,0,0] _ _ _ (fun st hz => ?_) ?_
  · obtain ⟨⟨d0, d1⟩, hz⟩ := hz
    have ht := gc_tells 0 live st
    rw [hz] at ht
    exact CodeB.tell ht (CodeB.of (evG_ok EP_ok names mixed (n := 100) (post_ok d0 d1 (four_inv v0 v1 d0 d1 ha hb hc hq hf))))
  · exact h (fun st => (0 ≤ d ∧ d ≤ 30) ∧ st = SE v d (four v d a b c q (ef x nf zf cf vf)) (ef x nf zf cf vf)) fun d0 d1 => ⟨⟨d0, d1⟩, rfl⟩
theorem okM_ok {m : Nat} {l : List (Nat × Nat)} {P : Prop} (hm : mdVal m l < 9223372036854775808) (h : P) : okM m l P := by
  unfold okM
  rw [wrap_i64_in (by omega) (by omega), decide_eq_true rfl]
  exact h
theorem preM_ok {d : Int} {m : Nat} {l1 l2 l3 : List (Nat × Nat)} {P : Prop} (h1 : mdVal m l1 < 9223372036854775808) (h2 : mdVal m l2 < 9223372036854775808) (h3 : mdVal m l3 < 9223372036854775808) (h4 : mdVal m [] < 9223372036854775808) (h : 0 ≤ d → d ≤ 30 → P) : preM d m l1 l2 l3 (V.raw (.bool true) = V.raw (.bool true)) P := by
  unfold preM
  by_cases d0 : d < 0
  · rw [decide_eq_true d0]; rfl
  · by_cases d1 : d > 30
    · rw [decide_eq_false d0, decide_eq_true d1]; rfl
    · rw [decide_eq_false d0, decide_eq_false d1]
      exact okM_ok h1 (okM_ok h2 (okM_ok h3 (okM_ok h4 (h (by omega) (by omega)))))
theorem run_md {x : Nat → Int} {nf zf cf vf : Bool} {v d : Int} {m : Nat} (v0 : 0 ≤ v) (v1 : v < 18446744073709551616) : ∀ k0 k1 k2 : Nat, k0 < 4 → k1 < 3 → k2 < 2 → mdVal m [(k0,4),(k1,3),(k2,2),(0,1)] < 9223372036854775808 →
    CallOk Try.prog 5 [.raw (.int .u64 v), .raw (.int .i64 d), regs x nf zf cf vf, .md .i64 m [(k0,4),(k1,3),(k2,2),(0,1)]] [] fun r _ => r = .ret (.raw (.bool true))
  | 0, 0, 0, _, _, _, hn => run_ok v0 v1 four_000 (by decide) (by decide) (by decide) (by decide) fun Z hz => (pre_000 v d x nf zf cf vf m Z).mpr (preM_ok (by simp only [mdVal] at hn ⊢; omega) (by simp only [mdVal] at hn ⊢; omega) (by simp only [mdVal] at hn ⊢; omega) (by simp only [mdVal] at hn ⊢; omega) hz)
  | 0, 0, 1, _, _, _, hn => run_ok v0 v1 four_001 (by decide) (by decide) (by decide) (by decide) fun Z hz => (pre_001 v d x nf zf cf vf m Z).mpr (preM_ok (by simp only [mdVal] at hn ⊢; omega) (by simp only [mdVal] at hn ⊢; omega) (by simp only [mdVal] at hn ⊢; omega) (by simp only [mdVal] at hn ⊢; omega) hz)
  | 0, 1, 0, _, _, _, hn => run_ok v0 v1 four_010 (by decide) (by decide) (by decide) (by decide) fun Z hz => (pre_010 v d x nf zf cf vf m Z).mpr (preM_ok (by simp only [mdVal] at hn ⊢; omega) (by simp only [mdVal] at hn ⊢; omega) (by simp only [mdVal] at hn ⊢; omega) (by simp only [mdVal] at hn ⊢; omega) hz)
  | 0, 1, 1, _, _, _, hn => run_ok v0 v1 four_011 (by decide) (by decide) (by decide) (by decide) fun Z hz => (pre_011 v d x nf zf cf vf m Z).mpr (preM_ok (by simp only [mdVal] at hn ⊢; omega) (by simp only [mdVal] at hn ⊢; omega) (by simp only [mdVal] at hn ⊢; omega) (by simp only [mdVal] at hn ⊢; omega) hz)
  | 0, 2, 0, _, _, _, hn => run_ok v0 v1 four_020 (by decide) (by decide) (by decide) (by decide) fun Z hz => (pre_020 v d x nf zf cf vf m Z).mpr (preM_ok (by simp only [mdVal] at hn ⊢; omega) (by simp only [mdVal] at hn ⊢; omega) (by simp only [mdVal] at hn ⊢; omega) (by simp only [mdVal] at hn ⊢; omega) hz)
  | 0, 2, 1, _, _, _, hn => run_ok v0 v1 four_021 (by decide) (by decide) (by decide) (by decide) fun Z hz => (pre_021 v d x nf zf cf vf m Z).mpr (preM_ok (by simp only [mdVal] at hn ⊢; omega) (by simp only [mdVal] at hn ⊢; omega) (by simp only [mdVal] at hn ⊢; omega) (by simp only [mdVal] at hn ⊢; omega) hz)
  | 1, 0, 0, _, _, _, hn => run_ok v0 v1 four_100 (by decide) (by decide) (by decide) (by decide) fun Z hz => (pre_100 v d x nf zf cf vf m Z).mpr (preM_ok (by simp only [mdVal] at hn ⊢; omega) (by simp only [mdVal] at hn ⊢; omega) (by simp only [mdVal] at hn ⊢; omega) (by simp only [mdVal] at hn ⊢; omega) hz)
  | 1, 0, 1, _, _, _, hn => run_ok v0 v1 four_101 (by decide) (by decide) (by decide) (by decide) fun Z hz => (pre_101 v d x nf zf cf vf m Z).mpr (preM_ok (by simp only [mdVal] at hn ⊢; omega) (by simp only [mdVal] at hn ⊢; omega) (by simp only [mdVal] at hn ⊢; omega) (by simp only [mdVal] at hn ⊢; omega) hz)
  | 1, 1, 0, _, _, _, hn => run_ok v0 v1 four_110 (by decide) (by decide) (by decide) (by decide) fun Z hz => (pre_110 v d x nf zf cf vf m Z).mpr (preM_ok (by simp only [mdVal] at hn ⊢; omega) (by simp only [mdVal] at hn ⊢; omega) (by simp only [mdVal] at hn ⊢; omega) (by simp only [mdVal] at hn ⊢; omega) hz)
  | 1, 1, 1, _, _, _, hn => run_ok v0 v1 four_111 (by decide) (by decide) (by decide) (by decide) fun Z hz => (pre_111 v d x nf zf cf vf m Z).mpr (preM_ok (by simp only [mdVal] at hn ⊢; omega) (by simp only [mdVal] at hn ⊢; omega) (by simp only [mdVal] at hn ⊢; omega) (by simp only [mdVal] at hn ⊢; omega) hz)
  | 1, 2, 0, _, _, _, hn => run_ok v0 v1 four_120 (by decide) (by decide) (by decide) (by decide) fun Z hz => (pre_120 v d x nf zf cf vf m Z).mpr (preM_ok (by simp only [mdVal] at hn ⊢; omega) (by simp only [mdVal] at hn ⊢; omega) (by simp only [mdVal] at hn ⊢; omega) (by simp only [mdVal] at hn ⊢; omega) hz)
  | 1, 2, 1, _, _, _, hn => run_ok v0 v1 four_121 (by decide) (by decide) (by decide) (by decide) fun Z hz => (pre_121 v d x nf zf cf vf m Z).mpr (preM_ok (by simp only [mdVal] at hn ⊢; omega) (by simp only [mdVal] at hn ⊢; omega) (by simp only [mdVal] at hn ⊢; omega) (by simp only [mdVal] at hn ⊢; omega) hz)
  | 2, 0, 0, _, _, _, hn => run_ok v0 v1 four_200 (by decide) (by decide) (by decide) (by decide) fun Z hz => (pre_200 v d x nf zf cf vf m Z).mpr (preM_ok (by simp only [mdVal] at hn ⊢; omega) (by simp only [mdVal] at hn ⊢; omega) (by simp only [mdVal] at hn ⊢; omega) (by simp only [mdVal] at hn ⊢; omega) hz)
  | 2, 0, 1, _, _, _, hn => run_ok v0 v1 four_201 (by decide) (by decide) (by decide) (by decide) fun Z hz => (pre_201 v d x nf zf cf vf m Z).mpr (preM_ok (by simp only [mdVal] at hn ⊢; omega) (by simp only [mdVal] at hn ⊢; omega) (by simp only [mdVal] at hn ⊢; omega) (by simp only [mdVal] at hn ⊢; omega) hz)
  | 2, 1, 0, _, _, _, hn => run_ok v0 v1 four_210 (by decide) (by decide) (by decide) (by decide) fun Z hz => (pre_210 v d x nf zf cf vf m Z).mpr (preM_ok (by simp only [mdVal] at hn ⊢; omega) (by simp only [mdVal] at hn ⊢; omega) (by simp only [mdVal] at hn ⊢; omega) (by simp only [mdVal] at hn ⊢; omega) hz)
  | 2, 1, 1, _, _, _, hn => run_ok v0 v1 four_211 (by decide) (by decide) (by decide) (by decide) fun Z hz => (pre_211 v d x nf zf cf vf m Z).mpr (preM_ok (by simp only [mdVal] at hn ⊢; omega) (by simp only [mdVal] at hn ⊢; omega) (by simp only [mdVal] at hn ⊢; omega) (by simp only [mdVal] at hn ⊢; omega) hz)
  | 2, 2, 0, _, _, _, hn => run_ok v0 v1 four_220 (by decide) (by decide) (by decide) (by decide) fun Z hz => (pre_220 v d x nf zf cf vf m Z).mpr (preM_ok (by simp only [mdVal] at hn ⊢; omega) (by simp only [mdVal] at hn ⊢; omega) (by simp only [mdVal] at hn ⊢; omega) (by simp only [mdVal] at hn ⊢; omega) hz)
  | 2, 2, 1, _, _, _, hn => run_ok v0 v1 four_221 (by decide) (by decide) (by decide) (by decide) fun Z hz => (pre_221 v d x nf zf cf vf m Z).mpr (preM_ok (by simp only [mdVal] at hn ⊢; omega) (by simp only [mdVal] at hn ⊢; omega) (by simp only [mdVal] at hn ⊢; omega) (by simp only [mdVal] at hn ⊢; omega) hz)
  | 3, 0, 0, _, _, _, hn => run_ok v0 v1 four_300 (by decide) (by decide) (by decide) (by decide) fun Z hz => (pre_300 v d x nf zf cf vf m Z).mpr (preM_ok (by simp only [mdVal] at hn ⊢; omega) (by simp only [mdVal] at hn ⊢; omega) (by simp only [mdVal] at hn ⊢; omega) (by simp only [mdVal] at hn ⊢; omega) hz)
  | 3, 0, 1, _, _, _, hn => run_ok v0 v1 four_301 (by decide) (by decide) (by decide) (by decide) fun Z hz => (pre_301 v d x nf zf cf vf m Z).mpr (preM_ok (by simp only [mdVal] at hn ⊢; omega) (by simp only [mdVal] at hn ⊢; omega) (by simp only [mdVal] at hn ⊢; omega) (by simp only [mdVal] at hn ⊢; omega) hz)
  | 3, 1, 0, _, _, _, hn => run_ok v0 v1 four_310 (by decide) (by decide) (by decide) (by decide) fun Z hz => (pre_310 v d x nf zf cf vf m Z).mpr (preM_ok (by simp only [mdVal] at hn ⊢; omega) (by simp only [mdVal] at hn ⊢; omega) (by simp only [mdVal] at hn ⊢; omega) (by simp only [mdVal] at hn ⊢; omega) hz)
  | 3, 1, 1, _, _, _, hn => run_ok v0 v1 four_311 (by decide) (by decide) (by decide) (by decide) fun Z hz => (pre_311 v d x nf zf cf vf m Z).mpr (preM_ok (by simp only [mdVal] at hn ⊢; omega) (by simp only [mdVal] at hn ⊢; omega) (by simp only [mdVal] at hn ⊢; omega) (by simp only [mdVal] at hn ⊢; omega) hz)
  | 3, 2, 0, _, _, _, hn => run_ok v0 v1 four_320 (by decide) (by decide) (by decide) (by decide) fun Z hz => (pre_320 v d x nf zf cf vf m Z).mpr (preM_ok (by simp only [mdVal] at hn ⊢; omega) (by simp only [mdVal] at hn ⊢; omega) (by simp only [mdVal] at hn ⊢; omega) (by simp only [mdVal] at hn ⊢; omega) hz)
  | 3, 2, 1, _, _, _, hn => run_ok v0 v1 four_321 (by decide) (by decide) (by decide) (by decide) fun Z hz => (pre_321 v d x nf zf cf vf m Z).mpr (preM_ok (by simp only [mdVal] at hn ⊢; omega) (by simp only [mdVal] at hn ⊢; omega) (by simp only [mdVal] at hn ⊢; omega) (by simp only [mdVal] at hn ⊢; omega) hz)
  | k0 + 4, _, _, h, _, _, _ => absurd h (by omega)
  | _, k1 + 3, _, _, h, _, _ => absurd h (by omega)
  | _, _, k2 + 2, _, _, h, _ => absurd h (by omega)
theorem run_neg {x : Nat → Int} {nf zf cf vf : Bool} {v d : Int} (v0 : 0 ≤ v) (v1 : v < 18446744073709551616) (k : Nat) : CallOk Try.prog 5 [.raw (.int .u64 v), .raw (.int .i64 d), regs x nf zf cf vf, .raw (.int .i64 (Int.negSucc k))] [] fun r _ => r = .ret (.raw (.bool true)) := by
  have go : ∀ {P : Prop}, (0 ≤ d → d ≤ 30 → P) → Br (decide (d < 0)) (V.raw (.bool true) = V.raw (.bool true)) (Br (decide (d > 30)) (V.raw (.bool true) = V.raw (.bool true)) P) := fun h => by
    by_cases d0 : d < 0
    · rw [decide_eq_true d0]; rfl
    · by_cases d1 : d > 30
      · rw [decide_eq_false d0, decide_eq_true d1]; rfl
      · rw [decide_eq_false d0, decide_eq_false d1]
        exact h (by omega) (by omega)
  cases k with
  | zero => exact run_ok v0 v1 four_000 (by decide) (by decide) (by decide) (by decide) fun Z hz => (pre_neg0 v d x nf zf cf vf Z).mpr (go hz)
  | succ k => exact run_ok v0 v1 four_000 (by decide) (by decide) (by decide) (by decide) fun Z hz => (pre_neg1 v d x nf zf cf vf k Z).mpr (go hz)
def aks : List AK := [.one (.int .u64), .one (.int .i64), .agg (List.replicate 32 (.int .u64) ++ List.replicate 4 .bool), .one (.int .i64)]
theorem law_call (args : List V) (h : argsOk aks args) : CallOk Try.prog 5 args [] fun r _ => r = .ret (.raw (.bool true)) := by
  obtain ⟨v, r1, rfl, wv, h1⟩ := argsOk_int h
  obtain ⟨d, r2, rfl, _, h2⟩ := argsOk_int h1
  obtain ⟨ws, r3, rfl, h0, h3⟩ := argsOk_agg h2
  obtain ⟨o, r4, rfl, wo, h4⟩ := argsOk_int h3
  cases argsOk_nil h4
  obtain ⟨x, nf, zf, cf, vf, hx, e⟩ := rawsOk_regs h0
  rw [e]
  simp only [Lit.wf, Bool.and_eq_true, decide_eq_true_eq] at wv wo
  have m1 : IntKind.u64.max = 18446744073709551615 := by decide
  have m2 : IntKind.u64.min = 0 := by decide
  have m3 : IntKind.i64.max = 9223372036854775807 := by decide
  rw [m1, m2] at wv
  rw [m3] at wo
  have v0 : 0 ≤ v := by omega
  have v1 : v < 18446744073709551616 := by omega
  cases o with
  | negSucc k => exact run_neg v0 v1 k
  | ofNat n =>
    have hn : n < 9223372036854775808 := by
      have := wo.2
      have e : Int.ofNat n = (n : Int) := rfl
      omega
    have hmd : mdVal (n / 24) [(n % 4,4),(n / 4 % 3,3),(n / 12 % 2,2),(0,1)] = n := by
      simp only [mdVal]
      omega
    refine CallOk.same (args' := [.raw (.int .u64 v), .raw (.int .i64 d), regs x nf zf cf vf, .md .i64 (n / 24) [(n % 4,4),(n / 4 % 3,3),(n / 12 % 2,2),(0,1)]]) (fun ρ => ?_) ⟨trivial, trivial, bd_regs .., trivial, trivial⟩ (run_md v0 v1 _ _ _ (by omega) (by omega) (by omega) (by rw [hmd]; exact hn))
    simp only [absL, V.abs, hmd]
    rfl
end Go.Proofs.Ytolohpkjpgbahaa.semParts
end
