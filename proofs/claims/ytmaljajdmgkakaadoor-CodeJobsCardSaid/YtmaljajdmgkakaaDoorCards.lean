/-
  DERIVED. GIVEN WITH THE SEED: THE CARDS: each row of YtmaljajdmgkakaaDoorRows.lean that lists a variable, with what it lists TIED to the program's text (the seventh form; the later family's looks); each row that meets fmt, with fmt's text TOLD by the authors' own Lean function (tested against real Go, not proved from fmt's source: count such statements apart). THE CARD IS WHAT COUNTS. Prove the row's statement (the work); the ties are given (YtmaljajdmgkakaaDoorTie.lean); close each card by the builder's one call (the guide's Derived/Test/ToyasCard.lean, 'card_holds'). Laid BY PROGRAM, IN A SANDBOX (cutbox-door.mjs). By AI agents, Wed Nov 11 2026. No macro, syntax, notation, axiom, sorry.
-/
import Derived.Test.YtmaljajdmgkakaaDoorRows
import GoSem.ClaimSeven
namespace Go.Proofs.YtmaljajdmgkakaaDoor
namespace Rows

/-- THE TIED CARD OF 'metronomelaw23.CodeLines'. -/
def codeLinesCard : Claim7 := { stood := { row := codeLinesRow, standIns := [], harness := (true, "c969d32fdbb109f398d46aecc4fb5d0312ed0b048224a4fc64f16071c61b1ab7"), looks := true }, kinds := [], alts := [], laidByText := true, laidKinds := [.data, .data, .data, .sentinel, .sentinel], laidTests := true, laidLooks := .later }
def CodeLinesCardSaid : Prop := Claim7.holds Tryd.pinned (.plain (OpenSpec.ofChange codeLinesSpec)) codeLinesCard

/-- THE TIED CARD OF 'metronomelaw23.CodeSteps'. -/
def codeStepsCard : Claim7 := { stood := { row := codeStepsRow, standIns := [], harness := (true, "c969d32fdbb109f398d46aecc4fb5d0312ed0b048224a4fc64f16071c61b1ab7"), looks := true }, kinds := [], alts := [], laidByText := true, laidKinds := [.data, .data, .data, .sentinel, .sentinel], laidTests := true, laidLooks := .later }
def CodeStepsCardSaid : Prop := Claim7.holds Tryd.pinned (.plain (OpenSpec.ofChange codeStepsSpec)) codeStepsCard

/-- THE TIED CARD OF 'metronomelaw23.CodeJobs'. -/
def codeJobsCard : Claim7 := { stood := { row := codeJobsRow, standIns := [], harness := (true, "c969d32fdbb109f398d46aecc4fb5d0312ed0b048224a4fc64f16071c61b1ab7"), looks := true }, kinds := [], alts := [], laidByText := true, laidKinds := [.data, .data, .data, .sentinel, .sentinel], laidTests := true, laidLooks := .later }
def CodeJobsCardSaid : Prop := Claim7.holds Tryd.pinned (.plain (OpenSpec.ofChange codeJobsSpec)) codeJobsCard

/-- THE SECOND FORM's CARD OF 'metronomelaw23.CodeLines'. -/
def codeLinesUptoCard : Claim7 := { stood := { row := codeLinesUptoRow, standIns := [], harness := (true, "c969d32fdbb109f398d46aecc4fb5d0312ed0b048224a4fc64f16071c61b1ab7"), looks := true }, kinds := [], alts := [], laidByText := true, laidKinds := [.data, .data, .data, .sentinel, .sentinel], laidTests := true, laidLooks := .later }
def CodeLinesUptoCardSaid : Prop := Claim7.holds Tryd.pinned (.plain (OpenSpec.upto codeLinesSpec)) codeLinesUptoCard

/-- THE SECOND FORM's CARD OF 'metronomelaw23.CodeSteps'. -/
def codeStepsUptoCard : Claim7 := { stood := { row := codeStepsUptoRow, standIns := [], harness := (true, "c969d32fdbb109f398d46aecc4fb5d0312ed0b048224a4fc64f16071c61b1ab7"), looks := true }, kinds := [], alts := [], laidByText := true, laidKinds := [.data, .data, .data, .sentinel, .sentinel], laidTests := true, laidLooks := .later }
def CodeStepsUptoCardSaid : Prop := Claim7.holds Tryd.pinned (.plain (OpenSpec.upto codeStepsSpec)) codeStepsUptoCard

/-- THE SECOND FORM's CARD OF 'metronomelaw23.CodeJobs'. -/
def codeJobsUptoCard : Claim7 := { stood := { row := codeJobsUptoRow, standIns := [], harness := (true, "c969d32fdbb109f398d46aecc4fb5d0312ed0b048224a4fc64f16071c61b1ab7"), looks := true }, kinds := [], alts := [], laidByText := true, laidKinds := [.data, .data, .data, .sentinel, .sentinel], laidTests := true, laidLooks := .later }
def CodeJobsUptoCardSaid : Prop := Claim7.holds Tryd.pinned (.plain (OpenSpec.upto codeJobsSpec)) codeJobsUptoCard
end Rows
end Go.Proofs.YtmaljajdmgkakaaDoor
