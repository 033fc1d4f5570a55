/-
  No cell of these rows narrows 'for every input' (looked for: loops, veiled, ifaces, maps, wideKeys, modest, calm, conditions, laid).
  DERIVED. THE GIVEN ROWS OF THIS SEAT. 4 by the template 'for every input the law returns true; each argument reads behind the call as it read before'; 0 by the template 'total and deterministic' (their statements: YtiablglkikcicaaTotals.lean).
  GIVEN WITH THE SEED: the statements are not yours to turn. If you find one false, say at which input.
  Laid BY PROGRAM, IN A SANDBOX (cutbox-rows.mjs): the forced cells as the released guide's own fill.sh prints them over the translation c11521b9079d3503… (all of the seat's roots in one cut). By AI agents, Wed Nov 11 2026. No macro, syntax, notation, axiom, sorry.
-/
import Derived.Test.YtiablglkikcicaaChecked
import GoSem.Claim
import GoSem.ClaimJoined
import GoSem.ClaimMapViews
import Derived.JoinedTies
import Derived.KernelRfl
namespace Go.Proofs.Ytiablglkikcicaa
/- THE CELL 'sum', in the pinned program and in every row, IS THE sha256 OF THE DUMP (.gsa) THAT YtiablglkikcicaaProg.lean LOADS. Nothing in Lean hashes anything: it is a label: what it is worth is what the hold of that sum in a sandbox is worth. -/
noncomputable def Try.pinned : Pinned := { name := "ytiablglkikcicaa", sum := "c11521b9079d350315a8fc88de56fba6271b3adb8919557b3a46b849da50c6ce", checked := Try.checked }
namespace Rows
def none {H : Type} : Left H := { results := [], args := [] }

/-- 'brazierlaw19.OrderClocks': WHATEVER THE INPUT: true; the input reads as it did. -/
def orderClocksSpec : ChangeSpec := { name := "orderClocks", fn := fun _ => fun
  | [d1, d2, d3] => { results := [.lit (.bool true)], args := [d1, d2, d3] }
  | _ => none }
def orderClocksRow : OpenClaim := { program := "ytiablglkikcicaa", sum := "c11521b9079d350315a8fc88de56fba6271b3adb8919557b3a46b849da50c6ce", func := "brazier/brazierlaw19.OrderClocks", spec := "orderClocks", unfollowed := true, recurses := true, plainKeys := false, apart := false }
def OrderClocksSaid : Prop := orderClocksRow.holds Try.pinned (OpenSpec.ofChange orderClocksSpec)

/-- ITS FALSE NEIGHBOUR: 'it returns false'. Refute it at one input. -/
def orderClocksWrong : ChangeSpec := { name := "orderClocks", fn := fun _ => fun
  | [d1, d2, d3] => { results := [.lit (.bool false)], args := [d1, d2, d3] }
  | _ => none }
def OrderClocksWrongFalsely : Prop := orderClocksRow.holds Try.pinned (OpenSpec.ofChange orderClocksWrong)

/-- 'brazierlaw19.OrderPartial': WHATEVER THE INPUT: true; the input reads as it did. -/
def orderPartialSpec : ChangeSpec := { name := "orderPartial", fn := fun _ => fun
  | [d1, d2, d3] => { results := [.lit (.bool true)], args := [d1, d2, d3] }
  | _ => none }
def orderPartialRow : OpenClaim := { program := "ytiablglkikcicaa", sum := "c11521b9079d350315a8fc88de56fba6271b3adb8919557b3a46b849da50c6ce", func := "brazier/brazierlaw19.OrderPartial", spec := "orderPartial", unfollowed := true, recurses := true, plainKeys := false, apart := false }
def OrderPartialSaid : Prop := orderPartialRow.holds Try.pinned (OpenSpec.ofChange orderPartialSpec)

/-- ITS FALSE NEIGHBOUR: 'it returns false'. Refute it at one input. -/
def orderPartialWrong : ChangeSpec := { name := "orderPartial", fn := fun _ => fun
  | [d1, d2, d3] => { results := [.lit (.bool false)], args := [d1, d2, d3] }
  | _ => none }
def OrderPartialWrongFalsely : Prop := orderPartialRow.holds Try.pinned (OpenSpec.ofChange orderPartialWrong)

/-- 'brazierlaw19.OrderThreads': WHATEVER THE INPUT: true; the input reads as it did. -/
def orderThreadsSpec : ChangeSpec := { name := "orderThreads", fn := fun _ => fun
  | [d] => { results := [.lit (.bool true)], args := [d] }
  | _ => none }
def orderThreadsRow : OpenClaim := { program := "ytiablglkikcicaa", sum := "c11521b9079d350315a8fc88de56fba6271b3adb8919557b3a46b849da50c6ce", func := "brazier/brazierlaw19.OrderThreads", spec := "orderThreads", unfollowed := true, recurses := true, plainKeys := false, apart := false }
def OrderThreadsSaid : Prop := orderThreadsRow.holds Try.pinned (OpenSpec.ofChange orderThreadsSpec)

/-- ITS FALSE NEIGHBOUR: 'it returns false'. Refute it at one input. -/
def orderThreadsWrong : ChangeSpec := { name := "orderThreads", fn := fun _ => fun
  | [d] => { results := [.lit (.bool false)], args := [d] }
  | _ => none }
def OrderThreadsWrongFalsely : Prop := orderThreadsRow.holds Try.pinned (OpenSpec.ofChange orderThreadsWrong)

/-- 'brazierlaw19.OrderShifts': WHATEVER THE INPUT: true; the input reads as it did. -/
def orderShiftsSpec : ChangeSpec := { name := "orderShifts", fn := fun _ => fun
  | [d1, d2, d3] => { results := [.lit (.bool true)], args := [d1, d2, d3] }
  | _ => none }
def orderShiftsRow : OpenClaim := { program := "ytiablglkikcicaa", sum := "c11521b9079d350315a8fc88de56fba6271b3adb8919557b3a46b849da50c6ce", func := "brazier/brazierlaw19.OrderShifts", spec := "orderShifts", unfollowed := true, recurses := true, plainKeys := false, apart := false }
def OrderShiftsSaid : Prop := orderShiftsRow.holds Try.pinned (OpenSpec.ofChange orderShiftsSpec)

/-- ITS FALSE NEIGHBOUR: 'it returns false'. Refute it at one input. -/
def orderShiftsWrong : ChangeSpec := { name := "orderShifts", fn := fun _ => fun
  | [d1, d2, d3] => { results := [.lit (.bool false)], args := [d1, d2, d3] }
  | _ => none }
def OrderShiftsWrongFalsely : Prop := orderShiftsRow.holds Try.pinned (OpenSpec.ofChange orderShiftsWrong)

/- THE SECOND FORM. 'bulk': how many values and letters a reading holds, each counted each time it is reached (what is shared counts as often as it is met; a slice's spare places count too). A statement '..UptoSaid' is the law's where the arguments, and the package variables that the reading takes, are together of bulk at most 1048576: NARROWER than '..Said'. Prove '..Said' where nothing that the law and all that it calls make is longer than what came in: it says more and counts as full. Else prove '..UptoSaid'. A law counts once. -/
mutual
def uptoBulk {H : Type} : DataW H → Nat
  | .lit (.string bytes) => bytes.length + 1
  | .lit _ => 1
  | .nil => 1
  | .ptr d => uptoBulk d + 1
  | .slice elems spare => uptoBulkAll elems + uptoBulkAll spare + 1
  | .agg parts => uptoBulkAll parts + 1
  | .iface _ d => uptoBulk d + 1
  | .map entries => uptoBulkEntries entries + 1
  | .held _ => 1
def uptoBulkAll {H : Type} : List (DataW H) → Nat
  | [] => 0
  | d :: r => uptoBulk d + uptoBulkAll r
def uptoBulkEntries {H : Type} : List (Lit × DataW H) → Nat
  | [] => 0
  | x :: r => uptoBulkEntry x + uptoBulkEntries r
def uptoBulkEntry {H : Type} : Lit × DataW H → Nat
  | (.string bytes, d) => bytes.length + uptoBulk d + 1
  | (_, d) => uptoBulk d + 1
 end
def uptoSmall : (H : Type) → List (DataW H) → Bool := fun _ ds => decide (uptoBulkAll ds ≤ 1048576)
def OpenSpec.upto (s : _root_.Go.ChangeSpec) : _root_.Go.OpenSpec := { _root_.Go.OpenSpec.ofChange s with cond := some uptoSmall }

/-- 'brazierlaw19.OrderClocks', WHERE WHAT IT READS IS OF BULK AT MOST 1048576: true; the input reads as it did. -/
def orderClocksUptoRow : OpenClaim := { program := "ytiablglkikcicaa", sum := "c11521b9079d350315a8fc88de56fba6271b3adb8919557b3a46b849da50c6ce", func := "brazier/brazierlaw19.OrderClocks", spec := "orderClocks", unfollowed := true, recurses := true, plainKeys := false, apart := false, narrowed := true }
def OrderClocksUptoSaid : Prop := orderClocksUptoRow.holds Try.pinned (OpenSpec.upto orderClocksSpec)

/-- 'brazierlaw19.OrderPartial', WHERE WHAT IT READS IS OF BULK AT MOST 1048576: true; the input reads as it did. -/
def orderPartialUptoRow : OpenClaim := { program := "ytiablglkikcicaa", sum := "c11521b9079d350315a8fc88de56fba6271b3adb8919557b3a46b849da50c6ce", func := "brazier/brazierlaw19.OrderPartial", spec := "orderPartial", unfollowed := true, recurses := true, plainKeys := false, apart := false, narrowed := true }
def OrderPartialUptoSaid : Prop := orderPartialUptoRow.holds Try.pinned (OpenSpec.upto orderPartialSpec)

/-- 'brazierlaw19.OrderThreads', WHERE WHAT IT READS IS OF BULK AT MOST 1048576: true; the input reads as it did. -/
def orderThreadsUptoRow : OpenClaim := { program := "ytiablglkikcicaa", sum := "c11521b9079d350315a8fc88de56fba6271b3adb8919557b3a46b849da50c6ce", func := "brazier/brazierlaw19.OrderThreads", spec := "orderThreads", unfollowed := true, recurses := true, plainKeys := false, apart := false, narrowed := true }
def OrderThreadsUptoSaid : Prop := orderThreadsUptoRow.holds Try.pinned (OpenSpec.upto orderThreadsSpec)

/-- 'brazierlaw19.OrderShifts', WHERE WHAT IT READS IS OF BULK AT MOST 1048576: true; the input reads as it did. -/
def orderShiftsUptoRow : OpenClaim := { program := "ytiablglkikcicaa", sum := "c11521b9079d350315a8fc88de56fba6271b3adb8919557b3a46b849da50c6ce", func := "brazier/brazierlaw19.OrderShifts", spec := "orderShifts", unfollowed := true, recurses := true, plainKeys := false, apart := false, narrowed := true }
def OrderShiftsUptoSaid : Prop := orderShiftsUptoRow.holds Try.pinned (OpenSpec.upto orderShiftsSpec)

end Rows
end Go.Proofs.Ytiablglkikcicaa
