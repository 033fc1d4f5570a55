/-
  No cell of these rows narrows 'for every input' (looked for: loops, veiled, ifaces, maps, wideKeys, modest, calm, conditions, laid).
  DERIVED. THE GIVEN ROWS OF THIS SEAT. 4 by the template 'for every input the law returns true; each argument reads behind the call as it read before'; 0 by the template 'total and deterministic' (their statements: YtalgegmcllcnmaaTotals.lean).
  GIVEN WITH THE SEED: the statements are not yours to turn. If you find one false, say at which input.
  Laid BY PROGRAM, IN A SANDBOX (cutbox-rows.mjs): the forced cells as the released guide's own fill.sh prints them over the translation 6942dc3a2c3e1d3b… (all of the seat's roots in one cut). By AI agents, Wed Nov 11 2026. No macro, syntax, notation, axiom, sorry.
-/
import Derived.Test.YtalgegmcllcnmaaChecked
import GoSem.Claim
import GoSem.ClaimJoined
import GoSem.ClaimMapViews
import Derived.JoinedTies
import Derived.KernelRfl
namespace Go.Proofs.Ytalgegmcllcnmaa
/- THE CELL 'sum', in the pinned program and in every row, IS THE sha256 OF THE DUMP (.gsa) THAT YtalgegmcllcnmaaProg.lean LOADS. Nothing in Lean hashes anything: it is a label: what it is worth is what the hold of that sum in a sandbox is worth. -/
noncomputable def Try.pinned : Pinned := { name := "ytalgegmcllcnmaa", sum := "6942dc3a2c3e1d3b2e7ae283e37fbd278b163aec9240cc408b1c2b14d4a6d484", checked := Try.checked }
namespace Rows
def none {H : Type} : Left H := { results := [], args := [] }

/-- 'brazierlaw23.LabPlays': WHATEVER THE INPUT: true; the input reads as it did. -/
def labPlaysSpec : ChangeSpec := { name := "labPlays", fn := fun _ => fun
  | [d1, d2, d3] => { results := [.lit (.bool true)], args := [d1, d2, d3] }
  | _ => none }
def labPlaysRow : OpenClaim := { program := "ytalgegmcllcnmaa", sum := "6942dc3a2c3e1d3b2e7ae283e37fbd278b163aec9240cc408b1c2b14d4a6d484", func := "brazier/brazierlaw23.LabPlays", spec := "labPlays", unfollowed := true, recurses := true, apart := false }
def LabPlaysSaid : Prop := labPlaysRow.holds Try.pinned (OpenSpec.ofChange labPlaysSpec)

/-- ITS FALSE NEIGHBOUR: 'it returns false'. Refute it at one input. -/
def labPlaysWrong : ChangeSpec := { name := "labPlays", fn := fun _ => fun
  | [d1, d2, d3] => { results := [.lit (.bool false)], args := [d1, d2, d3] }
  | _ => none }
def LabPlaysWrongFalsely : Prop := labPlaysRow.holds Try.pinned (OpenSpec.ofChange labPlaysWrong)

/-- 'brazierlaw23.LabConsts': WHATEVER THE INPUT: true; the input reads as it did. -/
def labConstsSpec : ChangeSpec := { name := "labConsts", fn := fun _ => fun
  | [d1, d2, d3] => { results := [.lit (.bool true)], args := [d1, d2, d3] }
  | _ => none }
def labConstsRow : OpenClaim := { program := "ytalgegmcllcnmaa", sum := "6942dc3a2c3e1d3b2e7ae283e37fbd278b163aec9240cc408b1c2b14d4a6d484", func := "brazier/brazierlaw23.LabConsts", spec := "labConsts", unfollowed := true, recurses := true, apart := false }
def LabConstsSaid : Prop := labConstsRow.holds Try.pinned (OpenSpec.ofChange labConstsSpec)

/-- ITS FALSE NEIGHBOUR: 'it returns false'. Refute it at one input. -/
def labConstsWrong : ChangeSpec := { name := "labConsts", fn := fun _ => fun
  | [d1, d2, d3] => { results := [.lit (.bool false)], args := [d1, d2, d3] }
  | _ => none }
def LabConstsWrongFalsely : Prop := labConstsRow.holds Try.pinned (OpenSpec.ofChange labConstsWrong)

/-- 'brazierlaw23.LabJumps': WHATEVER THE INPUT: true; the input reads as it did. -/
def labJumpsSpec : ChangeSpec := { name := "labJumps", fn := fun _ => fun
  | [d1, d2, d3, d4] => { results := [.lit (.bool true)], args := [d1, d2, d3, d4] }
  | _ => none }
def labJumpsRow : OpenClaim := { program := "ytalgegmcllcnmaa", sum := "6942dc3a2c3e1d3b2e7ae283e37fbd278b163aec9240cc408b1c2b14d4a6d484", func := "brazier/brazierlaw23.LabJumps", spec := "labJumps", unfollowed := true, recurses := true, apart := false }
def LabJumpsSaid : Prop := labJumpsRow.holds Try.pinned (OpenSpec.ofChange labJumpsSpec)

/-- ITS FALSE NEIGHBOUR: 'it returns false'. Refute it at one input. -/
def labJumpsWrong : ChangeSpec := { name := "labJumps", fn := fun _ => fun
  | [d1, d2, d3, d4] => { results := [.lit (.bool false)], args := [d1, d2, d3, d4] }
  | _ => none }
def LabJumpsWrongFalsely : Prop := labJumpsRow.holds Try.pinned (OpenSpec.ofChange labJumpsWrong)

/-- 'brazierlaw23.LabBack': WHATEVER THE INPUT: true; the input reads as it did. -/
def labBackSpec : ChangeSpec := { name := "labBack", fn := fun _ => fun
  | [d1, d2, d3] => { results := [.lit (.bool true)], args := [d1, d2, d3] }
  | _ => none }
def labBackRow : OpenClaim := { program := "ytalgegmcllcnmaa", sum := "6942dc3a2c3e1d3b2e7ae283e37fbd278b163aec9240cc408b1c2b14d4a6d484", func := "brazier/brazierlaw23.LabBack", spec := "labBack", unfollowed := true, recurses := true, apart := false }
def LabBackSaid : Prop := labBackRow.holds Try.pinned (OpenSpec.ofChange labBackSpec)

/-- ITS FALSE NEIGHBOUR: 'it returns false'. Refute it at one input. -/
def labBackWrong : ChangeSpec := { name := "labBack", fn := fun _ => fun
  | [d1, d2, d3] => { results := [.lit (.bool false)], args := [d1, d2, d3] }
  | _ => none }
def LabBackWrongFalsely : Prop := labBackRow.holds Try.pinned (OpenSpec.ofChange labBackWrong)

/- THE SECOND FORM. 'bulk': how many values and letters a reading holds, each counted each time it is reached (what is shared counts as often as it is met; a slice's spare places count too). A statement '..UptoSaid' is the law's where the arguments, and the package variables that the reading takes, are together of bulk at most 1048576: NARROWER than '..Said'. Prove '..Said' where nothing that the law and all that it calls make is longer than what came in: it says more and counts as full. Else prove '..UptoSaid'. A law counts once. -/
mutual
def uptoBulk {H : Type} : DataW H → Nat
  | .lit (.string bytes) => bytes.length + 1
  | .lit _ => 1
  | .nil => 1
  | .ptr d => uptoBulk d + 1
  | .slice elems spare => uptoBulkAll elems + uptoBulkAll spare + 1
  | .agg parts => uptoBulkAll parts + 1
  | .iface _ d => uptoBulk d + 1
  | .map entries => uptoBulkEntries entries + 1
  | .held _ => 1
def uptoBulkAll {H : Type} : List (DataW H) → Nat
  | [] => 0
  | d :: r => uptoBulk d + uptoBulkAll r
def uptoBulkEntries {H : Type} : List (Lit × DataW H) → Nat
  | [] => 0
  | x :: r => uptoBulkEntry x + uptoBulkEntries r
def uptoBulkEntry {H : Type} : Lit × DataW H → Nat
  | (.string bytes, d) => bytes.length + uptoBulk d + 1
  | (_, d) => uptoBulk d + 1
 end
def uptoSmall : (H : Type) → List (DataW H) → Bool := fun _ ds => decide (uptoBulkAll ds ≤ 1048576)
def OpenSpec.upto (s : _root_.Go.ChangeSpec) : _root_.Go.OpenSpec := { _root_.Go.OpenSpec.ofChange s with cond := some uptoSmall }

/-- 'brazierlaw23.LabPlays', WHERE WHAT IT READS IS OF BULK AT MOST 1048576: true; the input reads as it did. -/
def labPlaysUptoRow : OpenClaim := { program := "ytalgegmcllcnmaa", sum := "6942dc3a2c3e1d3b2e7ae283e37fbd278b163aec9240cc408b1c2b14d4a6d484", func := "brazier/brazierlaw23.LabPlays", spec := "labPlays", unfollowed := true, recurses := true, apart := false, narrowed := true }
def LabPlaysUptoSaid : Prop := labPlaysUptoRow.holds Try.pinned (OpenSpec.upto labPlaysSpec)

/-- 'brazierlaw23.LabConsts', WHERE WHAT IT READS IS OF BULK AT MOST 1048576: true; the input reads as it did. -/
def labConstsUptoRow : OpenClaim := { program := "ytalgegmcllcnmaa", sum := "6942dc3a2c3e1d3b2e7ae283e37fbd278b163aec9240cc408b1c2b14d4a6d484", func := "brazier/brazierlaw23.LabConsts", spec := "labConsts", unfollowed := true, recurses := true, apart := false, narrowed := true }
def LabConstsUptoSaid : Prop := labConstsUptoRow.holds Try.pinned (OpenSpec.upto labConstsSpec)

/-- 'brazierlaw23.LabJumps', WHERE WHAT IT READS IS OF BULK AT MOST 1048576: true; the input reads as it did. -/
def labJumpsUptoRow : OpenClaim := { program := "ytalgegmcllcnmaa", sum := "6942dc3a2c3e1d3b2e7ae283e37fbd278b163aec9240cc408b1c2b14d4a6d484", func := "brazier/brazierlaw23.LabJumps", spec := "labJumps", unfollowed := true, recurses := true, apart := false, narrowed := true }
def LabJumpsUptoSaid : Prop := labJumpsUptoRow.holds Try.pinned (OpenSpec.upto labJumpsSpec)

/-- 'brazierlaw23.LabBack', WHERE WHAT IT READS IS OF BULK AT MOST 1048576: true; the input reads as it did. -/
def labBackUptoRow : OpenClaim := { program := "ytalgegmcllcnmaa", sum := "6942dc3a2c3e1d3b2e7ae283e37fbd278b163aec9240cc408b1c2b14d4a6d484", func := "brazier/brazierlaw23.LabBack", spec := "labBack", unfollowed := true, recurses := true, apart := false, narrowed := true }
def LabBackUptoSaid : Prop := labBackUptoRow.holds Try.pinned (OpenSpec.upto labBackSpec)

end Rows
end Go.Proofs.Ytalgegmcllcnmaa
