/-
  No cell of these rows narrows 'for every input' (looked for: loops, veiled, ifaces, maps, wideKeys, modest, calm, conditions, laid).
  DERIVED. THE GIVEN ROWS OF THIS SEAT. 5 by the template 'for every input the law returns true; each argument reads behind the call as it read before'; 0 by the template 'total and deterministic' (their statements: YtolohpkjpgbahaaTotals.lean).
  GIVEN WITH THE SEED: the statements are not yours to turn. If you find one false, say at which input.
  Laid BY PROGRAM, IN A SANDBOX (cutbox-rows.mjs): the forced cells as the released guide's own fill.sh prints them over the translation 9c13cb506f9e9bf4… (all of the seat's roots in one cut). By AI agents, Wed Nov 11 2026. No macro, syntax, notation, axiom, sorry.
-/
import Derived.Test.YtolohpkjpgbahaaChecked
import GoSem.Claim
import GoSem.ClaimJoined
import GoSem.ClaimMapViews
import Derived.JoinedTies
import Derived.KernelRfl
namespace Go.Proofs.Ytolohpkjpgbahaa
/- THE CELL 'sum', in the pinned program and in every row, IS THE sha256 OF THE DUMP (.gsa) THAT YtolohpkjpgbahaaProg.lean LOADS. Nothing in Lean hashes anything: it is a label: what it is worth is what the hold of that sum in a sandbox is worth. -/
noncomputable def Try.pinned : Pinned := { name := "ytolohpkjpgbahaa", sum := "9c13cb506f9e9bf4e3657a0dae651d55281ff22641feca383b4f693fbbd5fd4a", checked := Try.checked }
namespace Rows
def none {H : Type} : Left H := { results := [], args := [] }

/-- 'brazierlaw6.SemRegs': WHATEVER THE INPUT: true; the input reads as it did. -/
def semRegsSpec : ChangeSpec := { name := "semRegs", fn := fun _ => fun
  | [d1, d2, d3, d4] => { results := [.lit (.bool true)], args := [d1, d2, d3, d4] }
  | _ => none }
def semRegsRow : OpenClaim := { program := "ytolohpkjpgbahaa", sum := "9c13cb506f9e9bf4e3657a0dae651d55281ff22641feca383b4f693fbbd5fd4a", func := "brazier/brazierlaw6.SemRegs", spec := "semRegs", unfollowed := true, recurses := true, apart := false }
def SemRegsSaid : Prop := semRegsRow.holds Try.pinned (OpenSpec.ofChange semRegsSpec)

/-- ITS FALSE NEIGHBOUR: 'it returns false'. Refute it at one input. -/
def semRegsWrong : ChangeSpec := { name := "semRegs", fn := fun _ => fun
  | [d1, d2, d3, d4] => { results := [.lit (.bool false)], args := [d1, d2, d3, d4] }
  | _ => none }
def SemRegsWrongFalsely : Prop := semRegsRow.holds Try.pinned (OpenSpec.ofChange semRegsWrong)

/-- 'brazierlaw6.SemCompares': WHATEVER THE INPUT: true; the input reads as it did. -/
def semComparesSpec : ChangeSpec := { name := "semCompares", fn := fun _ => fun
  | [d1, d2] => { results := [.lit (.bool true)], args := [d1, d2] }
  | _ => none }
def semComparesRow : OpenClaim := { program := "ytolohpkjpgbahaa", sum := "9c13cb506f9e9bf4e3657a0dae651d55281ff22641feca383b4f693fbbd5fd4a", func := "brazier/brazierlaw6.SemCompares", spec := "semCompares", unfollowed := true, recurses := true, apart := false }
def SemComparesSaid : Prop := semComparesRow.holds Try.pinned (OpenSpec.ofChange semComparesSpec)

/-- ITS FALSE NEIGHBOUR: 'it returns false'. Refute it at one input. -/
def semComparesWrong : ChangeSpec := { name := "semCompares", fn := fun _ => fun
  | [d1, d2] => { results := [.lit (.bool false)], args := [d1, d2] }
  | _ => none }
def SemComparesWrongFalsely : Prop := semComparesRow.holds Try.pinned (OpenSpec.ofChange semComparesWrong)

/-- 'brazierlaw6.SemParts': WHATEVER THE INPUT: true; the input reads as it did. -/
def semPartsSpec : ChangeSpec := { name := "semParts", fn := fun _ => fun
  | [d1, d2, d3, d4] => { results := [.lit (.bool true)], args := [d1, d2, d3, d4] }
  | _ => none }
def semPartsRow : OpenClaim := { program := "ytolohpkjpgbahaa", sum := "9c13cb506f9e9bf4e3657a0dae651d55281ff22641feca383b4f693fbbd5fd4a", func := "brazier/brazierlaw6.SemParts", spec := "semParts", unfollowed := true, recurses := true, apart := false }
def SemPartsSaid : Prop := semPartsRow.holds Try.pinned (OpenSpec.ofChange semPartsSpec)

/-- ITS FALSE NEIGHBOUR: 'it returns false'. Refute it at one input. -/
def semPartsWrong : ChangeSpec := { name := "semParts", fn := fun _ => fun
  | [d1, d2, d3, d4] => { results := [.lit (.bool false)], args := [d1, d2, d3, d4] }
  | _ => none }
def SemPartsWrongFalsely : Prop := semPartsRow.holds Try.pinned (OpenSpec.ofChange semPartsWrong)

/-- 'brazierlaw6.SemUndoes': WHATEVER THE INPUT: true; the input reads as it did. -/
def semUndoesSpec : ChangeSpec := { name := "semUndoes", fn := fun _ => fun
  | [d1, d2, d3] => { results := [.lit (.bool true)], args := [d1, d2, d3] }
  | _ => none }
def semUndoesRow : OpenClaim := { program := "ytolohpkjpgbahaa", sum := "9c13cb506f9e9bf4e3657a0dae651d55281ff22641feca383b4f693fbbd5fd4a", func := "brazier/brazierlaw6.SemUndoes", spec := "semUndoes", unfollowed := true, recurses := true, apart := false }
def SemUndoesSaid : Prop := semUndoesRow.holds Try.pinned (OpenSpec.ofChange semUndoesSpec)

/-- ITS FALSE NEIGHBOUR: 'it returns false'. Refute it at one input. -/
def semUndoesWrong : ChangeSpec := { name := "semUndoes", fn := fun _ => fun
  | [d1, d2, d3] => { results := [.lit (.bool false)], args := [d1, d2, d3] }
  | _ => none }
def SemUndoesWrongFalsely : Prop := semUndoesRow.holds Try.pinned (OpenSpec.ofChange semUndoesWrong)

/-- 'brazierlaw6.SemFrames': WHATEVER THE INPUT: true; the input reads as it did. -/
def semFramesSpec : ChangeSpec := { name := "semFrames", fn := fun _ => fun
  | [d1, d2, d3, d4] => { results := [.lit (.bool true)], args := [d1, d2, d3, d4] }
  | _ => none }
def semFramesRow : OpenClaim := { program := "ytolohpkjpgbahaa", sum := "9c13cb506f9e9bf4e3657a0dae651d55281ff22641feca383b4f693fbbd5fd4a", func := "brazier/brazierlaw6.SemFrames", spec := "semFrames", unfollowed := true, recurses := true, apart := false }
def SemFramesSaid : Prop := semFramesRow.holds Try.pinned (OpenSpec.ofChange semFramesSpec)

/-- ITS FALSE NEIGHBOUR: 'it returns false'. Refute it at one input. -/
def semFramesWrong : ChangeSpec := { name := "semFrames", fn := fun _ => fun
  | [d1, d2, d3, d4] => { results := [.lit (.bool false)], args := [d1, d2, d3, d4] }
  | _ => none }
def SemFramesWrongFalsely : Prop := semFramesRow.holds Try.pinned (OpenSpec.ofChange semFramesWrong)

/- THE SECOND FORM. 'bulk': how many values and letters a reading holds, each counted each time it is reached (what is shared counts as often as it is met; a slice's spare places count too). A statement '..UptoSaid' is the law's where the arguments, and the package variables that the reading takes, are together of bulk at most 1048576: NARROWER than '..Said'. Prove '..Said' where nothing that the law and all that it calls make is longer than what came in: it says more and counts as full. Else prove '..UptoSaid'. A law counts once. -/
mutual
def uptoBulk {H : Type} : DataW H → Nat
  | .lit (.string bytes) => bytes.length + 1
  | .lit _ => 1
  | .nil => 1
  | .ptr d => uptoBulk d + 1
  | .slice elems spare => uptoBulkAll elems + uptoBulkAll spare + 1
  | .agg parts => uptoBulkAll parts + 1
  | .iface _ d => uptoBulk d + 1
  | .map entries => uptoBulkEntries entries + 1
  | .held _ => 1
def uptoBulkAll {H : Type} : List (DataW H) → Nat
  | [] => 0
  | d :: r => uptoBulk d + uptoBulkAll r
def uptoBulkEntries {H : Type} : List (Lit × DataW H) → Nat
  | [] => 0
  | x :: r => uptoBulkEntry x + uptoBulkEntries r
def uptoBulkEntry {H : Type} : Lit × DataW H → Nat
  | (.string bytes, d) => bytes.length + uptoBulk d + 1
  | (_, d) => uptoBulk d + 1
 end
def uptoSmall : (H : Type) → List (DataW H) → Bool := fun _ ds => decide (uptoBulkAll ds ≤ 1048576)
def OpenSpec.upto (s : _root_.Go.ChangeSpec) : _root_.Go.OpenSpec := { _root_.Go.OpenSpec.ofChange s with cond := some uptoSmall }

/-- 'brazierlaw6.SemRegs', WHERE WHAT IT READS IS OF BULK AT MOST 1048576: true; the input reads as it did. -/
def semRegsUptoRow : OpenClaim := { program := "ytolohpkjpgbahaa", sum := "9c13cb506f9e9bf4e3657a0dae651d55281ff22641feca383b4f693fbbd5fd4a", func := "brazier/brazierlaw6.SemRegs", spec := "semRegs", unfollowed := true, recurses := true, apart := false, narrowed := true }
def SemRegsUptoSaid : Prop := semRegsUptoRow.holds Try.pinned (OpenSpec.upto semRegsSpec)

/-- 'brazierlaw6.SemCompares', WHERE WHAT IT READS IS OF BULK AT MOST 1048576: true; the input reads as it did. -/
def semComparesUptoRow : OpenClaim := { program := "ytolohpkjpgbahaa", sum := "9c13cb506f9e9bf4e3657a0dae651d55281ff22641feca383b4f693fbbd5fd4a", func := "brazier/brazierlaw6.SemCompares", spec := "semCompares", unfollowed := true, recurses := true, apart := false, narrowed := true }
def SemComparesUptoSaid : Prop := semComparesUptoRow.holds Try.pinned (OpenSpec.upto semComparesSpec)

/-- 'brazierlaw6.SemParts', WHERE WHAT IT READS IS OF BULK AT MOST 1048576: true; the input reads as it did. -/
def semPartsUptoRow : OpenClaim := { program := "ytolohpkjpgbahaa", sum := "9c13cb506f9e9bf4e3657a0dae651d55281ff22641feca383b4f693fbbd5fd4a", func := "brazier/brazierlaw6.SemParts", spec := "semParts", unfollowed := true, recurses := true, apart := false, narrowed := true }
def SemPartsUptoSaid : Prop := semPartsUptoRow.holds Try.pinned (OpenSpec.upto semPartsSpec)

/-- 'brazierlaw6.SemUndoes', WHERE WHAT IT READS IS OF BULK AT MOST 1048576: true; the input reads as it did. -/
def semUndoesUptoRow : OpenClaim := { program := "ytolohpkjpgbahaa", sum := "9c13cb506f9e9bf4e3657a0dae651d55281ff22641feca383b4f693fbbd5fd4a", func := "brazier/brazierlaw6.SemUndoes", spec := "semUndoes", unfollowed := true, recurses := true, apart := false, narrowed := true }
def SemUndoesUptoSaid : Prop := semUndoesUptoRow.holds Try.pinned (OpenSpec.upto semUndoesSpec)

/-- 'brazierlaw6.SemFrames', WHERE WHAT IT READS IS OF BULK AT MOST 1048576: true; the input reads as it did. -/
def semFramesUptoRow : OpenClaim := { program := "ytolohpkjpgbahaa", sum := "9c13cb506f9e9bf4e3657a0dae651d55281ff22641feca383b4f693fbbd5fd4a", func := "brazier/brazierlaw6.SemFrames", spec := "semFrames", unfollowed := true, recurses := true, apart := false, narrowed := true }
def SemFramesUptoSaid : Prop := semFramesUptoRow.holds Try.pinned (OpenSpec.upto semFramesSpec)

end Rows
end Go.Proofs.Ytolohpkjpgbahaa
