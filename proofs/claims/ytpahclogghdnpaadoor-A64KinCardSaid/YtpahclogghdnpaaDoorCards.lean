/-
  DERIVED. GIVEN WITH THE SEED: THE CARDS: each row of YtpahclogghdnpaaDoorRows.lean that lists a variable, with what it lists TIED to the program's text (the seventh form; the later family's looks); each row that meets fmt, with fmt's text TOLD by the authors' own Lean function (tested against real Go, not proved from fmt's source: count such statements apart). THE CARD IS WHAT COUNTS. Prove the row's statement (the work); the ties are given (YtpahclogghdnpaaDoorTie.lean); close each card by the builder's one call (the guide's Derived/Test/ToyasCard.lean, 'card_holds'). Laid BY PROGRAM, IN A SANDBOX (cutbox-door.mjs). By AI agents, Wed Nov 11 2026. No macro, syntax, notation, axiom, sorry.
-/
import Derived.Test.YtpahclogghdnpaaDoorRows
import GoSem.ClaimSeven
namespace Go.Proofs.YtpahclogghdnpaaDoor
namespace Rows

/-- THE TIED CARD OF 'brazierlaw2.A64Checks'. -/
def a64ChecksCard : Claim7 := { stood := { row := a64ChecksRow, standIns := [], harness := (true, "4dee6a478a8f5e37c058574b5348ee88a6820b1909c39b1de2027348a3af53e6"), looks := false }, kinds := [], alts := [], laidByText := true, laidKinds := [.listed, .data], laidTests := true, laidLooks := .later }
def A64ChecksCardSaid : Prop := Claim7.holds Tryd.pinned (.plain (OpenSpec.ofChange a64ChecksSpec)) a64ChecksCard

/-- THE TIED CARD OF 'brazierlaw2.A64Names'. -/
def a64NamesCard : Claim7 := { stood := { row := a64NamesRow, standIns := [], harness := (true, "4dee6a478a8f5e37c058574b5348ee88a6820b1909c39b1de2027348a3af53e6"), looks := false }, kinds := [], alts := [], laidByText := true, laidKinds := [.listed, .data], laidTests := true, laidLooks := .later }
def A64NamesCardSaid : Prop := Claim7.holds Tryd.pinned (.plain (OpenSpec.ofChange a64NamesSpec)) a64NamesCard

/-- THE TIED CARD OF 'brazierlaw2.A64Kin'. -/
def a64KinCard : Claim7 := { stood := { row := a64KinRow, standIns := [], harness := (true, "4dee6a478a8f5e37c058574b5348ee88a6820b1909c39b1de2027348a3af53e6"), looks := false }, kinds := [], alts := [], laidByText := true, laidKinds := [.listed, .data], laidTests := true, laidLooks := .later }
def A64KinCardSaid : Prop := Claim7.holds Tryd.pinned (.plain (OpenSpec.ofChange a64KinSpec)) a64KinCard

/-- THE TIED CARD OF 'brazierlaw2.A64Kinds'. -/
def a64KindsCard : Claim7 := { stood := { row := a64KindsRow, standIns := [], harness := (true, "4dee6a478a8f5e37c058574b5348ee88a6820b1909c39b1de2027348a3af53e6"), looks := false }, kinds := [], alts := [], laidByText := true, laidKinds := [.listed, .data], laidTests := true, laidLooks := .later }
def A64KindsCardSaid : Prop := Claim7.holds Tryd.pinned (.plain (OpenSpec.ofChange a64KindsSpec)) a64KindsCard

/-- THE SECOND FORM's CARD OF 'brazierlaw2.A64Checks'. -/
def a64ChecksUptoCard : Claim7 := { stood := { row := a64ChecksUptoRow, standIns := [], harness := (true, "4dee6a478a8f5e37c058574b5348ee88a6820b1909c39b1de2027348a3af53e6"), looks := false }, kinds := [], alts := [], laidByText := true, laidKinds := [.listed, .data], laidTests := true, laidLooks := .later }
def A64ChecksUptoCardSaid : Prop := Claim7.holds Tryd.pinned (.plain (OpenSpec.upto a64ChecksSpec)) a64ChecksUptoCard

/-- THE SECOND FORM's CARD OF 'brazierlaw2.A64Names'. -/
def a64NamesUptoCard : Claim7 := { stood := { row := a64NamesUptoRow, standIns := [], harness := (true, "4dee6a478a8f5e37c058574b5348ee88a6820b1909c39b1de2027348a3af53e6"), looks := false }, kinds := [], alts := [], laidByText := true, laidKinds := [.listed, .data], laidTests := true, laidLooks := .later }
def A64NamesUptoCardSaid : Prop := Claim7.holds Tryd.pinned (.plain (OpenSpec.upto a64NamesSpec)) a64NamesUptoCard

/-- THE SECOND FORM's CARD OF 'brazierlaw2.A64Kin'. -/
def a64KinUptoCard : Claim7 := { stood := { row := a64KinUptoRow, standIns := [], harness := (true, "4dee6a478a8f5e37c058574b5348ee88a6820b1909c39b1de2027348a3af53e6"), looks := false }, kinds := [], alts := [], laidByText := true, laidKinds := [.listed, .data], laidTests := true, laidLooks := .later }
def A64KinUptoCardSaid : Prop := Claim7.holds Tryd.pinned (.plain (OpenSpec.upto a64KinSpec)) a64KinUptoCard

/-- THE SECOND FORM's CARD OF 'brazierlaw2.A64Kinds'. -/
def a64KindsUptoCard : Claim7 := { stood := { row := a64KindsUptoRow, standIns := [], harness := (true, "4dee6a478a8f5e37c058574b5348ee88a6820b1909c39b1de2027348a3af53e6"), looks := false }, kinds := [], alts := [], laidByText := true, laidKinds := [.listed, .data], laidTests := true, laidLooks := .later }
def A64KindsUptoCardSaid : Prop := Claim7.holds Tryd.pinned (.plain (OpenSpec.upto a64KindsSpec)) a64KindsUptoCard
end Rows
end Go.Proofs.YtpahclogghdnpaaDoor
