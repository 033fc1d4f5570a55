/-
  No cell of these rows narrows 'for every input' (looked for: loops, veiled, ifaces, maps, wideKeys, modest, calm, conditions, laid).
  DERIVED. THE GIVEN ROWS OF THIS SEAT. 3 by the template 'for every input the law returns true; each argument reads behind the call as it read before'; 0 by the template 'total and deterministic' (their statements: YtjoopjhimgdgdaaTotals.lean).
  GIVEN WITH THE SEED: the statements are not yours to turn. If you find one false, say at which input.
  Laid BY PROGRAM, IN A SANDBOX (cutbox-rows.mjs): the forced cells as the released guide's own fill.sh prints them over the translation 16466f67a15a6776… (all of the seat's roots in one cut). By AI agents, Wed Nov 11 2026. No macro, syntax, notation, axiom, sorry.
-/
import Derived.Test.YtjoopjhimgdgdaaChecked
import GoSem.Claim
import GoSem.ClaimJoined
import GoSem.ClaimMapViews
import Derived.JoinedTies
import Derived.KernelRfl
namespace Go.Proofs.Ytjoopjhimgdgdaa
/- THE CELL 'sum', in the pinned program and in every row, IS THE sha256 OF THE DUMP (.gsa) THAT YtjoopjhimgdgdaaProg.lean LOADS. Nothing in Lean hashes anything: it is a label: what it is worth is what the hold of that sum in a sandbox is worth. -/
noncomputable def Try.pinned : Pinned := { name := "ytjoopjhimgdgdaa", sum := "16466f67a15a6776e45e30829d292a72a9555b42fb3871130a93f759b0157ea1", checked := Try.checked }
namespace Rows
def none {H : Type} : Left H := { results := [], args := [] }

/-- 'brazierlaw4.DecWords': WHATEVER THE INPUT: true; the input reads as it did. -/
def decWordsSpec : ChangeSpec := { name := "decWords", fn := fun _ => fun
  | [d] => { results := [.lit (.bool true)], args := [d] }
  | _ => none }
def decWordsRow : OpenClaim := { program := "ytjoopjhimgdgdaa", sum := "16466f67a15a6776e45e30829d292a72a9555b42fb3871130a93f759b0157ea1", func := "brazier/brazierlaw4.DecWords", spec := "decWords", unfollowed := true, recurses := true, apart := false }
def DecWordsSaid : Prop := decWordsRow.holds Try.pinned (OpenSpec.ofChange decWordsSpec)

/-- ITS FALSE NEIGHBOUR: 'it returns false'. Refute it at one input. -/
def decWordsWrong : ChangeSpec := { name := "decWords", fn := fun _ => fun
  | [d] => { results := [.lit (.bool false)], args := [d] }
  | _ => none }
def DecWordsWrongFalsely : Prop := decWordsRow.holds Try.pinned (OpenSpec.ofChange decWordsWrong)

/-- 'brazierlaw4.DecBack': WHATEVER THE INPUT: true; the input reads as it did. -/
def decBackSpec : ChangeSpec := { name := "decBack", fn := fun _ => fun
  | [d1, d2] => { results := [.lit (.bool true)], args := [d1, d2] }
  | _ => none }
def decBackRow : OpenClaim := { program := "ytjoopjhimgdgdaa", sum := "16466f67a15a6776e45e30829d292a72a9555b42fb3871130a93f759b0157ea1", func := "brazier/brazierlaw4.DecBack", spec := "decBack", unfollowed := true, recurses := true, apart := false }
def DecBackSaid : Prop := decBackRow.holds Try.pinned (OpenSpec.ofChange decBackSpec)

/-- ITS FALSE NEIGHBOUR: 'it returns false'. Refute it at one input. -/
def decBackWrong : ChangeSpec := { name := "decBack", fn := fun _ => fun
  | [d1, d2] => { results := [.lit (.bool false)], args := [d1, d2] }
  | _ => none }
def DecBackWrongFalsely : Prop := decBackRow.holds Try.pinned (OpenSpec.ofChange decBackWrong)

/-- 'brazierlaw4.DecRows': WHATEVER THE INPUT: true; the input reads as it did. -/
def decRowsSpec : ChangeSpec := { name := "decRows", fn := fun _ => fun
  | [d1, d2, d3] => { results := [.lit (.bool true)], args := [d1, d2, d3] }
  | _ => none }
def decRowsRow : OpenClaim := { program := "ytjoopjhimgdgdaa", sum := "16466f67a15a6776e45e30829d292a72a9555b42fb3871130a93f759b0157ea1", func := "brazier/brazierlaw4.DecRows", spec := "decRows", unfollowed := true, recurses := true, apart := false }
def DecRowsSaid : Prop := decRowsRow.holds Try.pinned (OpenSpec.ofChange decRowsSpec)

/-- ITS FALSE NEIGHBOUR: 'it returns false'. Refute it at one input. -/
def decRowsWrong : ChangeSpec := { name := "decRows", fn := fun _ => fun
  | [d1, d2, d3] => { results := [.lit (.bool false)], args := [d1, d2, d3] }
  | _ => none }
def DecRowsWrongFalsely : Prop := decRowsRow.holds Try.pinned (OpenSpec.ofChange decRowsWrong)

/- THE SECOND FORM. 'bulk': how many values and letters a reading holds, each counted each time it is reached (what is shared counts as often as it is met; a slice's spare places count too). A statement '..UptoSaid' is the law's where the arguments, and the package variables that the reading takes, are together of bulk at most 1048576: NARROWER than '..Said'. Prove '..Said' where nothing that the law and all that it calls make is longer than what came in: it says more and counts as full. Else prove '..UptoSaid'. A law counts once. -/
mutual
def uptoBulk {H : Type} : DataW H → Nat
  | .lit (.string bytes) => bytes.length + 1
  | .lit _ => 1
  | .nil => 1
  | .ptr d => uptoBulk d + 1
  | .slice elems spare => uptoBulkAll elems + uptoBulkAll spare + 1
  | .agg parts => uptoBulkAll parts + 1
  | .iface _ d => uptoBulk d + 1
  | .map entries => uptoBulkEntries entries + 1
  | .held _ => 1
def uptoBulkAll {H : Type} : List (DataW H) → Nat
  | [] => 0
  | d :: r => uptoBulk d + uptoBulkAll r
def uptoBulkEntries {H : Type} : List (Lit × DataW H) → Nat
  | [] => 0
  | x :: r => uptoBulkEntry x + uptoBulkEntries r
def uptoBulkEntry {H : Type} : Lit × DataW H → Nat
  | (.string bytes, d) => bytes.length + uptoBulk d + 1
  | (_, d) => uptoBulk d + 1
 end
def uptoSmall : (H : Type) → List (DataW H) → Bool := fun _ ds => decide (uptoBulkAll ds ≤ 1048576)
def OpenSpec.upto (s : _root_.Go.ChangeSpec) : _root_.Go.OpenSpec := { _root_.Go.OpenSpec.ofChange s with cond := some uptoSmall }

/-- 'brazierlaw4.DecWords', WHERE WHAT IT READS IS OF BULK AT MOST 1048576: true; the input reads as it did. -/
def decWordsUptoRow : OpenClaim := { program := "ytjoopjhimgdgdaa", sum := "16466f67a15a6776e45e30829d292a72a9555b42fb3871130a93f759b0157ea1", func := "brazier/brazierlaw4.DecWords", spec := "decWords", unfollowed := true, recurses := true, apart := false, narrowed := true }
def DecWordsUptoSaid : Prop := decWordsUptoRow.holds Try.pinned (OpenSpec.upto decWordsSpec)

/-- 'brazierlaw4.DecBack', WHERE WHAT IT READS IS OF BULK AT MOST 1048576: true; the input reads as it did. -/
def decBackUptoRow : OpenClaim := { program := "ytjoopjhimgdgdaa", sum := "16466f67a15a6776e45e30829d292a72a9555b42fb3871130a93f759b0157ea1", func := "brazier/brazierlaw4.DecBack", spec := "decBack", unfollowed := true, recurses := true, apart := false, narrowed := true }
def DecBackUptoSaid : Prop := decBackUptoRow.holds Try.pinned (OpenSpec.upto decBackSpec)

/-- 'brazierlaw4.DecRows', WHERE WHAT IT READS IS OF BULK AT MOST 1048576: true; the input reads as it did. -/
def decRowsUptoRow : OpenClaim := { program := "ytjoopjhimgdgdaa", sum := "16466f67a15a6776e45e30829d292a72a9555b42fb3871130a93f759b0157ea1", func := "brazier/brazierlaw4.DecRows", spec := "decRows", unfollowed := true, recurses := true, apart := false, narrowed := true }
def DecRowsUptoSaid : Prop := decRowsUptoRow.holds Try.pinned (OpenSpec.upto decRowsSpec)

end Rows
end Go.Proofs.Ytjoopjhimgdgdaa
