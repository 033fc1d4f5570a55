/-
  No cell of these rows narrows 'for every input' (looked for: loops, veiled, ifaces, maps, wideKeys, modest, calm, conditions, laid).
  DERIVED. THE GIVEN ROWS OF THIS SEAT. 3 by the template 'for every input the law returns true; each argument reads behind the call as it read before'; 0 by the template 'total and deterministic' (their statements: YtbjikmepfpkmjaaTotals.lean).
  GIVEN WITH THE SEED: the statements are not yours to turn. If you find one false, say at which input.
  Laid BY PROGRAM, IN A SANDBOX (cutbox-rows.mjs): the forced cells as the released guide's own fill.sh prints them over the translation 9b435e88a0a90745… (all of the seat's roots in one cut). By AI agents, Wed Nov 11 2026. No macro, syntax, notation, axiom, sorry.
-/
import Derived.Test.YtbjikmepfpkmjaaChecked
import GoSem.Claim
import GoSem.ClaimJoined
import GoSem.ClaimMapViews
import Derived.JoinedTies
import Derived.KernelRfl
namespace Go.Proofs.Ytbjikmepfpkmjaa
/- THE CELL 'sum', in the pinned program and in every row, IS THE sha256 OF THE DUMP (.gsa) THAT YtbjikmepfpkmjaaProg.lean LOADS. Nothing in Lean hashes anything: it is a label: what it is worth is what the hold of that sum in a sandbox is worth. -/
noncomputable def Try.pinned : Pinned := { name := "ytbjikmepfpkmjaa", sum := "9b435e88a0a907456afb7023daa0778470748fb8838b2ca15f7c84e4f81a262e", checked := Try.checked }
namespace Rows
def none {H : Type} : Left H := { results := [], args := [] }

/-- 'brazierlaw3.EncWords': WHATEVER THE INPUT: true; the input reads as it did. -/
def encWordsSpec : ChangeSpec := { name := "encWords", fn := fun _ => fun
  | [d1, d2] => { results := [.lit (.bool true)], args := [d1, d2] }
  | _ => none }
def encWordsRow : OpenClaim := { program := "ytbjikmepfpkmjaa", sum := "9b435e88a0a907456afb7023daa0778470748fb8838b2ca15f7c84e4f81a262e", func := "brazier/brazierlaw3.EncWords", spec := "encWords", unfollowed := true, recurses := true, apart := false }
def EncWordsSaid : Prop := encWordsRow.holds Try.pinned (OpenSpec.ofChange encWordsSpec)

/-- ITS FALSE NEIGHBOUR: 'it returns false'. Refute it at one input. -/
def encWordsWrong : ChangeSpec := { name := "encWords", fn := fun _ => fun
  | [d1, d2] => { results := [.lit (.bool false)], args := [d1, d2] }
  | _ => none }
def EncWordsWrongFalsely : Prop := encWordsRow.holds Try.pinned (OpenSpec.ofChange encWordsWrong)

/-- 'brazierlaw3.EncUnlike': WHATEVER THE INPUT: true; the input reads as it did. -/
def encUnlikeSpec : ChangeSpec := { name := "encUnlike", fn := fun _ => fun
  | [d1, d2] => { results := [.lit (.bool true)], args := [d1, d2] }
  | _ => none }
def encUnlikeRow : OpenClaim := { program := "ytbjikmepfpkmjaa", sum := "9b435e88a0a907456afb7023daa0778470748fb8838b2ca15f7c84e4f81a262e", func := "brazier/brazierlaw3.EncUnlike", spec := "encUnlike", unfollowed := true, recurses := true, apart := false }
def EncUnlikeSaid : Prop := encUnlikeRow.holds Try.pinned (OpenSpec.ofChange encUnlikeSpec)

/-- ITS FALSE NEIGHBOUR: 'it returns false'. Refute it at one input. -/
def encUnlikeWrong : ChangeSpec := { name := "encUnlike", fn := fun _ => fun
  | [d1, d2] => { results := [.lit (.bool false)], args := [d1, d2] }
  | _ => none }
def EncUnlikeWrongFalsely : Prop := encUnlikeRow.holds Try.pinned (OpenSpec.ofChange encUnlikeWrong)

/-- 'brazierlaw3.EncRows': WHATEVER THE INPUT: true; the input reads as it did. -/
def encRowsSpec : ChangeSpec := { name := "encRows", fn := fun _ => fun
  | [d] => { results := [.lit (.bool true)], args := [d] }
  | _ => none }
def encRowsRow : OpenClaim := { program := "ytbjikmepfpkmjaa", sum := "9b435e88a0a907456afb7023daa0778470748fb8838b2ca15f7c84e4f81a262e", func := "brazier/brazierlaw3.EncRows", spec := "encRows", unfollowed := true, recurses := true, apart := false }
def EncRowsSaid : Prop := encRowsRow.holds Try.pinned (OpenSpec.ofChange encRowsSpec)

/-- ITS FALSE NEIGHBOUR: 'it returns false'. Refute it at one input. -/
def encRowsWrong : ChangeSpec := { name := "encRows", fn := fun _ => fun
  | [d] => { results := [.lit (.bool false)], args := [d] }
  | _ => none }
def EncRowsWrongFalsely : Prop := encRowsRow.holds Try.pinned (OpenSpec.ofChange encRowsWrong)

/- THE SECOND FORM. 'bulk': how many values and letters a reading holds, each counted each time it is reached (what is shared counts as often as it is met; a slice's spare places count too). A statement '..UptoSaid' is the law's where the arguments, and the package variables that the reading takes, are together of bulk at most 1048576: NARROWER than '..Said'. Prove '..Said' where nothing that the law and all that it calls make is longer than what came in: it says more and counts as full. Else prove '..UptoSaid'. A law counts once. -/
mutual
def uptoBulk {H : Type} : DataW H → Nat
  | .lit (.string bytes) => bytes.length + 1
  | .lit _ => 1
  | .nil => 1
  | .ptr d => uptoBulk d + 1
  | .slice elems spare => uptoBulkAll elems + uptoBulkAll spare + 1
  | .agg parts => uptoBulkAll parts + 1
  | .iface _ d => uptoBulk d + 1
  | .map entries => uptoBulkEntries entries + 1
  | .held _ => 1
def uptoBulkAll {H : Type} : List (DataW H) → Nat
  | [] => 0
  | d :: r => uptoBulk d + uptoBulkAll r
def uptoBulkEntries {H : Type} : List (Lit × DataW H) → Nat
  | [] => 0
  | x :: r => uptoBulkEntry x + uptoBulkEntries r
def uptoBulkEntry {H : Type} : Lit × DataW H → Nat
  | (.string bytes, d) => bytes.length + uptoBulk d + 1
  | (_, d) => uptoBulk d + 1
 end
def uptoSmall : (H : Type) → List (DataW H) → Bool := fun _ ds => decide (uptoBulkAll ds ≤ 1048576)
def OpenSpec.upto (s : _root_.Go.ChangeSpec) : _root_.Go.OpenSpec := { _root_.Go.OpenSpec.ofChange s with cond := some uptoSmall }

/-- 'brazierlaw3.EncWords', WHERE WHAT IT READS IS OF BULK AT MOST 1048576: true; the input reads as it did. -/
def encWordsUptoRow : OpenClaim := { program := "ytbjikmepfpkmjaa", sum := "9b435e88a0a907456afb7023daa0778470748fb8838b2ca15f7c84e4f81a262e", func := "brazier/brazierlaw3.EncWords", spec := "encWords", unfollowed := true, recurses := true, apart := false, narrowed := true }
def EncWordsUptoSaid : Prop := encWordsUptoRow.holds Try.pinned (OpenSpec.upto encWordsSpec)

/-- 'brazierlaw3.EncUnlike', WHERE WHAT IT READS IS OF BULK AT MOST 1048576: true; the input reads as it did. -/
def encUnlikeUptoRow : OpenClaim := { program := "ytbjikmepfpkmjaa", sum := "9b435e88a0a907456afb7023daa0778470748fb8838b2ca15f7c84e4f81a262e", func := "brazier/brazierlaw3.EncUnlike", spec := "encUnlike", unfollowed := true, recurses := true, apart := false, narrowed := true }
def EncUnlikeUptoSaid : Prop := encUnlikeUptoRow.holds Try.pinned (OpenSpec.upto encUnlikeSpec)

/-- 'brazierlaw3.EncRows', WHERE WHAT IT READS IS OF BULK AT MOST 1048576: true; the input reads as it did. -/
def encRowsUptoRow : OpenClaim := { program := "ytbjikmepfpkmjaa", sum := "9b435e88a0a907456afb7023daa0778470748fb8838b2ca15f7c84e4f81a262e", func := "brazier/brazierlaw3.EncRows", spec := "encRows", unfollowed := true, recurses := true, apart := false, narrowed := true }
def EncRowsUptoSaid : Prop := encRowsUptoRow.holds Try.pinned (OpenSpec.upto encRowsSpec)

end Rows
end Go.Proofs.Ytbjikmepfpkmjaa
