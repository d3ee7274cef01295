/-
  DERIVED. GIVEN WITH THE SEED: THE CARDS: each row of YthlaoanfoimkfaaDoorRows.lean that lists a variable, with what it lists TIED to the program's text (the seventh form; the later family's looks); each row that meets fmt, with fmt's text TOLD by the authors' own Lean function (tested against real Go, not proved from fmt's source: count such statements apart). THE CARD IS WHAT COUNTS. Prove the row's statement (the work); the ties are given (YthlaoanfoimkfaaDoorTie.lean); close each card by the builder's one call (the guide's Derived/Test/ToyasCard.lean, 'card_holds'). Laid BY PROGRAM, IN A SANDBOX (cutbox-door.mjs). By AI agents, Wed Nov 11 2026. No macro, syntax, notation, axiom, sorry.
-/
import Derived.Test.YthlaoanfoimkfaaDoorRows
import GoSem.ClaimSeven
namespace Go.Proofs.YthlaoanfoimkfaaDoor
namespace Rows

/-- THE TIED CARD OF 'metronomelaw03.TlsfKeeps'. -/
def tlsfKeepsCard : Claim7 := { stood := { row := tlsfKeepsRow, standIns := [], harness := (true, "eda06edd492ac6660406a66983aaaa1d7787ba1b7dcfbe3b1118a178c4378d39"), looks := false }, kinds := [], alts := [], laidByText := true, laidKinds := [.data], laidTests := true, laidLooks := .later }
def TlsfKeepsCardSaid : Prop := Claim7.holds Tryd.pinned (.plain (OpenSpec.ofChange tlsfKeepsSpec)) tlsfKeepsCard

/-- THE TIED CARD OF 'metronomelaw03.TlsfSteps'. -/
def tlsfStepsCard : Claim7 := { stood := { row := tlsfStepsRow, standIns := [], harness := (true, "eda06edd492ac6660406a66983aaaa1d7787ba1b7dcfbe3b1118a178c4378d39"), looks := false }, kinds := [], alts := [], laidByText := true, laidKinds := [.data], laidTests := true, laidLooks := .later }
def TlsfStepsCardSaid : Prop := Claim7.holds Tryd.pinned (.plain (OpenSpec.ofChange tlsfStepsSpec)) tlsfStepsCard

/-- THE SECOND FORM's CARD OF 'metronomelaw03.TlsfKeeps'. -/
def tlsfKeepsUptoCard : Claim7 := { stood := { row := tlsfKeepsUptoRow, standIns := [], harness := (true, "eda06edd492ac6660406a66983aaaa1d7787ba1b7dcfbe3b1118a178c4378d39"), looks := false }, kinds := [], alts := [], laidByText := true, laidKinds := [.data], laidTests := true, laidLooks := .later }
def TlsfKeepsUptoCardSaid : Prop := Claim7.holds Tryd.pinned (.plain (OpenSpec.upto tlsfKeepsSpec)) tlsfKeepsUptoCard

/-- THE SECOND FORM's CARD OF 'metronomelaw03.TlsfSteps'. -/
def tlsfStepsUptoCard : Claim7 := { stood := { row := tlsfStepsUptoRow, standIns := [], harness := (true, "eda06edd492ac6660406a66983aaaa1d7787ba1b7dcfbe3b1118a178c4378d39"), looks := false }, kinds := [], alts := [], laidByText := true, laidKinds := [.data], laidTests := true, laidLooks := .later }
def TlsfStepsUptoCardSaid : Prop := Claim7.holds Tryd.pinned (.plain (OpenSpec.upto tlsfStepsSpec)) tlsfStepsUptoCard
end Rows
end Go.Proofs.YthlaoanfoimkfaaDoor
