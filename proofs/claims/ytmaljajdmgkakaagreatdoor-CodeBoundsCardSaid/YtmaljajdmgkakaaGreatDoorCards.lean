/-
  DERIVED. GIVEN WITH THE SEED: THE CARDS: each row of YtmaljajdmgkakaaGreatDoorRows.lean that lists a variable, with what it lists TIED to the program's text (the seventh form; the later family's looks); each row that meets fmt, with fmt's text TOLD by the authors' own Lean function (tested against real Go, not proved from fmt's source: count such statements apart). THE CARD IS WHAT COUNTS. Prove the row's statement (the work); the ties are given (YtmaljajdmgkakaaGreatDoorTie.lean); close each card by the builder's one call (the guide's Derived/Test/ToyasCard.lean, 'card_holds'). Laid BY PROGRAM, IN A SANDBOX (cutbox-door.mjs). By AI agents, Wed Nov 11 2026. No macro, syntax, notation, axiom, sorry.
-/
import Derived.Test.YtmaljajdmgkakaaGreatDoorRows
import GoSem.ClaimSeven
namespace Go.Proofs.YtmaljajdmgkakaaGreatDoor
namespace Rows

/-- THE TIED CARD OF 'metronomelaw23.CodeBounds'. -/
def codeBoundsCard : Claim7 := { stood := { row := codeBoundsRow, standIns := [], harness := (true, "512fbedc716d8659c6b17e6fddf9410d82d8954cd67f839fed116aefb7be6bd8"), looks := true }, kinds := [], alts := [], laidByText := true, laidKinds := [.data, .data, .data, .sentinel, .sentinel], laidTests := true, laidLooks := .later }
def CodeBoundsCardSaid : Prop := Claim7.holds Tryz.pinned (.plain (OpenSpec.ofChange codeBoundsSpec)) codeBoundsCard

/-- THE TIED CARD OF 'metronomelaw23.CodePrograms'. -/
def codeProgramsCard : Claim7 := { stood := { row := codeProgramsRow, standIns := [], harness := (true, "512fbedc716d8659c6b17e6fddf9410d82d8954cd67f839fed116aefb7be6bd8"), looks := true }, kinds := [], alts := [], laidByText := true, laidKinds := [.data, .data, .data, .sentinel, .sentinel], laidTests := true, laidLooks := .later }
def CodeProgramsCardSaid : Prop := Claim7.holds Tryz.pinned (.plain (OpenSpec.ofChange codeProgramsSpec)) codeProgramsCard

/-- THE TIED CARD OF 'metronomelaw23.CodeBack'. -/
def codeBackCard : Claim7 := { stood := { row := codeBackRow, standIns := [], harness := (true, "512fbedc716d8659c6b17e6fddf9410d82d8954cd67f839fed116aefb7be6bd8"), looks := true }, kinds := [], alts := [], laidByText := true, laidKinds := [.data, .data, .data, .sentinel, .sentinel], laidTests := true, laidLooks := .later }
def CodeBackCardSaid : Prop := Claim7.holds Tryz.pinned (.plain (OpenSpec.ofChange codeBackSpec)) codeBackCard

/-- THE SECOND FORM's CARD OF 'metronomelaw23.CodeBounds'. -/
def codeBoundsUptoCard : Claim7 := { stood := { row := codeBoundsUptoRow, standIns := [], harness := (true, "512fbedc716d8659c6b17e6fddf9410d82d8954cd67f839fed116aefb7be6bd8"), looks := true }, kinds := [], alts := [], laidByText := true, laidKinds := [.data, .data, .data, .sentinel, .sentinel], laidTests := true, laidLooks := .later }
def CodeBoundsUptoCardSaid : Prop := Claim7.holds Tryz.pinned (.plain (OpenSpec.upto codeBoundsSpec)) codeBoundsUptoCard

/-- THE SECOND FORM's CARD OF 'metronomelaw23.CodePrograms'. -/
def codeProgramsUptoCard : Claim7 := { stood := { row := codeProgramsUptoRow, standIns := [], harness := (true, "512fbedc716d8659c6b17e6fddf9410d82d8954cd67f839fed116aefb7be6bd8"), looks := true }, kinds := [], alts := [], laidByText := true, laidKinds := [.data, .data, .data, .sentinel, .sentinel], laidTests := true, laidLooks := .later }
def CodeProgramsUptoCardSaid : Prop := Claim7.holds Tryz.pinned (.plain (OpenSpec.upto codeProgramsSpec)) codeProgramsUptoCard

/-- THE SECOND FORM's CARD OF 'metronomelaw23.CodeBack'. -/
def codeBackUptoCard : Claim7 := { stood := { row := codeBackUptoRow, standIns := [], harness := (true, "512fbedc716d8659c6b17e6fddf9410d82d8954cd67f839fed116aefb7be6bd8"), looks := true }, kinds := [], alts := [], laidByText := true, laidKinds := [.data, .data, .data, .sentinel, .sentinel], laidTests := true, laidLooks := .later }
def CodeBackUptoCardSaid : Prop := Claim7.holds Tryz.pinned (.plain (OpenSpec.upto codeBackSpec)) codeBackUptoCard
end Rows
end Go.Proofs.YtmaljajdmgkakaaGreatDoor
