/-
  No cell of these rows narrows 'for every input' (looked for: loops, veiled, ifaces, maps, wideKeys, modest, calm, conditions, laid).
  DERIVED. THE GIVEN ROWS OF THIS SEAT. 3 by the template 'for every input the law returns true; each argument reads behind the call as it read before'; 0 by the template 'total and deterministic' (their statements: YtllfmafebhifdaaTotals.lean).
  GIVEN WITH THE SEED: the statements are not yours to turn. If you find one false, say at which input.
  Laid BY PROGRAM, IN A SANDBOX (cutbox-rows.mjs): the forced cells as the released guide's own fill.sh prints them over the translation c716d168b493c334… (all of the seat's roots in one cut). By AI agents, Wed Nov 11 2026. No macro, syntax, notation, axiom, sorry.
-/
import Derived.Test.YtllfmafebhifdaaChecked
import GoSem.Claim
import GoSem.ClaimJoined
import GoSem.ClaimMapViews
import Derived.JoinedTies
import Derived.KernelRfl
namespace Go.Proofs.Ytllfmafebhifdaa
/- THE CELL 'sum', in the pinned program and in every row, IS THE sha256 OF THE DUMP (.gsa) THAT YtllfmafebhifdaaProg.lean LOADS. Nothing in Lean hashes anything: it is a label: what it is worth is what the hold of that sum in a sandbox is worth. -/
noncomputable def Try.pinned : Pinned := { name := "ytllfmafebhifdaa", sum := "c716d168b493c3341746c967b5a4a0676a53f6388bec0fc529a892ec907ac76e", checked := Try.checked }
namespace Rows
def none {H : Type} : Left H := { results := [], args := [] }

/-- 'brazierlaw9.WinBarriers': WHATEVER THE INPUT: true; the input reads as it did. -/
def winBarriersSpec : ChangeSpec := { name := "winBarriers", fn := fun _ => fun
  | [d1, d2, d3, d4] => { results := [.lit (.bool true)], args := [d1, d2, d3, d4] }
  | _ => none }
def winBarriersRow : OpenClaim := { program := "ytllfmafebhifdaa", sum := "c716d168b493c3341746c967b5a4a0676a53f6388bec0fc529a892ec907ac76e", func := "brazier/brazierlaw9.WinBarriers", spec := "winBarriers", unfollowed := true, recurses := true, apart := false }
def WinBarriersSaid : Prop := winBarriersRow.holds Try.pinned (OpenSpec.ofChange winBarriersSpec)

/-- ITS FALSE NEIGHBOUR: 'it returns false'. Refute it at one input. -/
def winBarriersWrong : ChangeSpec := { name := "winBarriers", fn := fun _ => fun
  | [d1, d2, d3, d4] => { results := [.lit (.bool false)], args := [d1, d2, d3, d4] }
  | _ => none }
def WinBarriersWrongFalsely : Prop := winBarriersRow.holds Try.pinned (OpenSpec.ofChange winBarriersWrong)

/-- 'brazierlaw9.WinForwards': WHATEVER THE INPUT: true; the input reads as it did. -/
def winForwardsSpec : ChangeSpec := { name := "winForwards", fn := fun _ => fun
  | [d1, d2] => { results := [.lit (.bool true)], args := [d1, d2] }
  | _ => none }
def winForwardsRow : OpenClaim := { program := "ytllfmafebhifdaa", sum := "c716d168b493c3341746c967b5a4a0676a53f6388bec0fc529a892ec907ac76e", func := "brazier/brazierlaw9.WinForwards", spec := "winForwards", unfollowed := true, recurses := true, apart := false }
def WinForwardsSaid : Prop := winForwardsRow.holds Try.pinned (OpenSpec.ofChange winForwardsSpec)

/-- ITS FALSE NEIGHBOUR: 'it returns false'. Refute it at one input. -/
def winForwardsWrong : ChangeSpec := { name := "winForwards", fn := fun _ => fun
  | [d1, d2] => { results := [.lit (.bool false)], args := [d1, d2] }
  | _ => none }
def WinForwardsWrongFalsely : Prop := winForwardsRow.holds Try.pinned (OpenSpec.ofChange winForwardsWrong)

/-- 'brazierlaw9.WinFirst': WHATEVER THE INPUT: true; the input reads as it did. -/
def winFirstSpec : ChangeSpec := { name := "winFirst", fn := fun _ => fun
  | [d1, d2] => { results := [.lit (.bool true)], args := [d1, d2] }
  | _ => none }
def winFirstRow : OpenClaim := { program := "ytllfmafebhifdaa", sum := "c716d168b493c3341746c967b5a4a0676a53f6388bec0fc529a892ec907ac76e", func := "brazier/brazierlaw9.WinFirst", spec := "winFirst", unfollowed := true, recurses := true, apart := false }
def WinFirstSaid : Prop := winFirstRow.holds Try.pinned (OpenSpec.ofChange winFirstSpec)

/-- ITS FALSE NEIGHBOUR: 'it returns false'. Refute it at one input. -/
def winFirstWrong : ChangeSpec := { name := "winFirst", fn := fun _ => fun
  | [d1, d2] => { results := [.lit (.bool false)], args := [d1, d2] }
  | _ => none }
def WinFirstWrongFalsely : Prop := winFirstRow.holds Try.pinned (OpenSpec.ofChange winFirstWrong)

/- THE SECOND FORM. 'bulk': how many values and letters a reading holds, each counted each time it is reached (what is shared counts as often as it is met; a slice's spare places count too). A statement '..UptoSaid' is the law's where the arguments, and the package variables that the reading takes, are together of bulk at most 1048576: NARROWER than '..Said'. Prove '..Said' where nothing that the law and all that it calls make is longer than what came in: it says more and counts as full. Else prove '..UptoSaid'. A law counts once. -/
mutual
def uptoBulk {H : Type} : DataW H → Nat
  | .lit (.string bytes) => bytes.length + 1
  | .lit _ => 1
  | .nil => 1
  | .ptr d => uptoBulk d + 1
  | .slice elems spare => uptoBulkAll elems + uptoBulkAll spare + 1
  | .agg parts => uptoBulkAll parts + 1
  | .iface _ d => uptoBulk d + 1
  | .map entries => uptoBulkEntries entries + 1
  | .held _ => 1
def uptoBulkAll {H : Type} : List (DataW H) → Nat
  | [] => 0
  | d :: r => uptoBulk d + uptoBulkAll r
def uptoBulkEntries {H : Type} : List (Lit × DataW H) → Nat
  | [] => 0
  | x :: r => uptoBulkEntry x + uptoBulkEntries r
def uptoBulkEntry {H : Type} : Lit × DataW H → Nat
  | (.string bytes, d) => bytes.length + uptoBulk d + 1
  | (_, d) => uptoBulk d + 1
 end
def uptoSmall : (H : Type) → List (DataW H) → Bool := fun _ ds => decide (uptoBulkAll ds ≤ 1048576)
def OpenSpec.upto (s : _root_.Go.ChangeSpec) : _root_.Go.OpenSpec := { _root_.Go.OpenSpec.ofChange s with cond := some uptoSmall }

/-- 'brazierlaw9.WinBarriers', WHERE WHAT IT READS IS OF BULK AT MOST 1048576: true; the input reads as it did. -/
def winBarriersUptoRow : OpenClaim := { program := "ytllfmafebhifdaa", sum := "c716d168b493c3341746c967b5a4a0676a53f6388bec0fc529a892ec907ac76e", func := "brazier/brazierlaw9.WinBarriers", spec := "winBarriers", unfollowed := true, recurses := true, apart := false, narrowed := true }
def WinBarriersUptoSaid : Prop := winBarriersUptoRow.holds Try.pinned (OpenSpec.upto winBarriersSpec)

/-- 'brazierlaw9.WinForwards', WHERE WHAT IT READS IS OF BULK AT MOST 1048576: true; the input reads as it did. -/
def winForwardsUptoRow : OpenClaim := { program := "ytllfmafebhifdaa", sum := "c716d168b493c3341746c967b5a4a0676a53f6388bec0fc529a892ec907ac76e", func := "brazier/brazierlaw9.WinForwards", spec := "winForwards", unfollowed := true, recurses := true, apart := false, narrowed := true }
def WinForwardsUptoSaid : Prop := winForwardsUptoRow.holds Try.pinned (OpenSpec.upto winForwardsSpec)

/-- 'brazierlaw9.WinFirst', WHERE WHAT IT READS IS OF BULK AT MOST 1048576: true; the input reads as it did. -/
def winFirstUptoRow : OpenClaim := { program := "ytllfmafebhifdaa", sum := "c716d168b493c3341746c967b5a4a0676a53f6388bec0fc529a892ec907ac76e", func := "brazier/brazierlaw9.WinFirst", spec := "winFirst", unfollowed := true, recurses := true, apart := false, narrowed := true }
def WinFirstUptoSaid : Prop := winFirstUptoRow.holds Try.pinned (OpenSpec.upto winFirstSpec)

end Rows
end Go.Proofs.Ytllfmafebhifdaa
