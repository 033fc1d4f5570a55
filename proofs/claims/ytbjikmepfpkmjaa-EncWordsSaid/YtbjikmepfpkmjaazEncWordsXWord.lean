/- enc.Word: an instruction's word: its base, and the fields laid in one behind the other. -/
import Derived.Test.YtbjikmepfpkmjaazEncWordsXBase
import Derived.Test.YtbjikmepfpkmjaazEncWordsQx2
import Derived.Test.YtbjikmepfpkmjaazEncWordsQx7
import Derived.Lib.Hide
import Derived.Lib.SliceRun
namespace Go.Proofs.Ytbjikmepfpkmjaa.X
set_option linter.unusedVariables false
set_option linter.unusedSimpArgs false
open Go.RowKit Go.Proofs.YtbjikmepfpkmjaaW.PrintWords Go.Proofs.YtbjikmepfpkmjaaW.PrintLast Go.Proofs.YtbjikmepfpkmjaaW.PrintMore Go.Proofs.Ytbjikmepfpkmjaa.Q
theorem setCell_drewN (w : World) (a : Addr) (v : Value) (n : Nat) : (w.drewN n).setCell a v = (w.setCell a v).drewN n := rfl
theorem alloc_drewN (w : World) (o : Obj) (n : Nat) : (w.drewN n).alloc o = (w.alloc o).drewN n := rfl
/-- One field laid in. -/
def put1 (w lo n v : Int) : Option Int := bits_Put.f w lo n (v % 4294967296)
def putAll : List (Int × Int × Int) → Int → Option Int
  | [], w => some w
  | x :: l, w => (put1 w x.1 x.2.1 x.2.2).bind (putAll l)
/-- The fields of an instruction, in the order in which they are laid: from, how many bits, what. -/
def lays (op d n m a c imm : Int) : List (Int × Int × Int) :=
  if op = 0 then [(0, 16, imm)] else if op = 42 then [(5, 16, imm)] else if op = 2 ∨ op = 3 then [(21, 2, m), (5, 16, imm), (0, 5, d)]
  else if op = 20 ∨ op = 24 then [(0, 26, Int.tdiv imm 4)] else if op = 21 then [(5, 19, Int.tdiv imm 4), (0, 4, c)] else if op = 22 ∨ op = 23 then [(5, 19, Int.tdiv imm 4), (0, 5, d)]
  else if op = 37 then [(8, 4, if imm = 0 then 11 else if imm = 1 then 9 else if imm = 2 then 10 else 0)] else if op = 1 ∨ op = 38 ∨ op = 39 then [] else if op = 40 ∨ op = 41 then [(0, 5, n)]
  else if op = 36 then [(16, 5, d), (5, 5, n), (0, 5, m)] else if op = 25 ∨ op = 26 ∨ op = 27 then [(5, 5, n)] else if op = 4 ∨ op = 5 ∨ op = 6 ∨ op = 30 then [(5, 5, n), (10, 12, imm), (0, 5, d)]
  else if op = 28 ∨ op = 29 then [(5, 5, n), (10, 12, Int.tdiv imm 8), (0, 5, d)] else if op = 33 ∨ op = 34 ∨ op = 35 then [(5, 5, n), (0, 5, d)]
  else if op = 19 then [(5, 5, n), (12, 4, c), (16, 5, m), (0, 5, d)] else if op = 13 ∨ op = 14 then [(5, 5, n), (16, 5, m), (10, 5, a), (0, 5, d)] else [(5, 5, n), (16, 5, m), (0, 5, d)]
def enc_Word.f (op d n m a c imm : Int) : Option (Int × Int) :=
  (a64_Check.f 40 op d n m a c imm).bind fun e => if e = 0 then (enc_Base.f op).bind fun b => (putAll (lays op d n m a c imm) b).bind fun w => some (w, 0) else some (0, e)
set_option maxHeartbeats 1000000 in
set_option maxRecDepth 100000 in
theorem lay_calls (p : Addr) (x lo n v y : Int) (w : World) (h : put1 x lo n v = some y) (hc : w.cell? p = some (.int .u32 x)) (hf : w.frozen? p = false) :
    Calls Try.prog 14 #[.pointer (some p), .int .i64 lo, .int .i64 n, .int .i64 v] w fun e w' => e = .returned (.tuple #[]) ∧ ∃ nd, w' = (w.setCell p (.int .u32 y)).drewN nd := by
  unfold put1 at h
  have H := Lib.hid h
  clear h
  go_enter Try.func14, Try.ntmps14
  go_wp2_with fail
  refine (bits_Put.calls x lo n (v % 4294967296) y _ H.out).mono ?_
  rintro e w' ⟨rfl, ⟨nd, rfl⟩⟩
  go_wp2
  go_end0
  exact ⟨rfl, nd, rfl⟩
set_option maxHeartbeats 1000000 in
set_option maxRecDepth 100000 in
theorem reg_calls (p : Addr) (x lo n y : Int) (w : World) (h : put1 x lo 5 n = some y) (hn0 : 0 ≤ n) (hn1 : n ≤ 31) (hc : w.cell? p = some (.int .u32 x)) (hf : w.frozen? p = false) :
    Calls Try.prog 15 #[.pointer (some p), .int .i64 lo, .int .i64 n] w fun e w' => e = .returned (.tuple #[]) ∧ ∃ nd, w' = (w.setCell p (.int .u32 y)).drewN nd := by
  have H := Lib.hid h
  clear h
  go_enter Try.func15, Try.ntmps15
  go_wp2_with fail
  refine (lay_calls p x lo 5 n y _ H.out hc hf).mono ?_
  rintro e w' ⟨rfl, nd, rfl⟩
  go_wp2
  go_end0
  exact ⟨rfl, nd, rfl⟩
/-- The box of an instruction stands in a world. -/
def Box (W : World) (g : Nat) (op d n m a c imm : Int) : Prop :=
  W.cell? ⟨g, 0, none⟩ = some (.int .i64 op) ∧ W.cell? ⟨g, 1, none⟩ = some (.int .i64 d) ∧ W.cell? ⟨g, 2, none⟩ = some (.int .i64 n) ∧ W.cell? ⟨g, 3, none⟩ = some (.int .i64 m) ∧ W.cell? ⟨g, 4, none⟩ = some (.int .i64 a) ∧ W.cell? ⟨g, 5, none⟩ = some (.int .i64 c) ∧ W.cell? ⟨g, 6, none⟩ = some (.int .i64 imm)
theorem Box.of_below {w w1 : World} {op d n m a c imm : Int} {t : TypeId} (hb : Below (w.alloc (.cells #[.int .i64 op, .int .i64 d, .int .i64 n, .int .i64 m, .int .i64 a, .int .i64 c, .int .i64 imm] t)).heap.size (w.alloc (.cells #[.int .i64 op, .int .i64 d, .int .i64 n, .int .i64 m, .int .i64 a, .int .i64 c, .int .i64 imm] t)) w1) :
    Box w1 w.heap.size op d n m a c imm := by
  have h : ∀ (j : Nat), w1.cell? ⟨w.heap.size, j, none⟩ = (#[Value.int .i64 op, .int .i64 d, .int .i64 n, .int .i64 m, .int .i64 a, .int .i64 c, .int .i64 imm] : Array Value)[j]? := by
    intro j
    rw [hb.cell (p := ⟨w.heap.size, j, none⟩) (by simp), World.cell?_alloc_new]
  exact ⟨h 0, h 1, h 2, h 3, h 4, h 5, h 6⟩
theorem Box.drewN {W : World} {g : Nat} {op d n m a c imm : Int} (h : Box W g op d n m a c imm) (k : Nat) : Box (W.drewN k) g op d n m a c imm := h
theorem Box.alloc {W : World} {g : Nat} {op d n m a c imm : Int} (h : Box W g op d n m a c imm) (o : Obj) : Box (W.alloc o) g op d n m a c imm :=
  ⟨Lib.cell?_alloc_some o h.1, Lib.cell?_alloc_some o h.2.1, Lib.cell?_alloc_some o h.2.2.1, Lib.cell?_alloc_some o h.2.2.2.1, Lib.cell?_alloc_some o h.2.2.2.2.1, Lib.cell?_alloc_some o h.2.2.2.2.2.1, Lib.cell?_alloc_some o h.2.2.2.2.2.2⟩
end Go.Proofs.Ytbjikmepfpkmjaa.X
