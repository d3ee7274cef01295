/-
  DERIVED. GIVEN WITH THE SEED: THE CARDS: each row of YtcocjjapmmpgaaaDoorRows.lean that lists a variable, with what it lists TIED to the program's text (the seventh form; the later family's looks); each row that meets fmt, with fmt's text TOLD by the authors' own Lean function (tested against real Go, not proved from fmt's source: count such statements apart). THE CARD IS WHAT COUNTS. Prove the row's statement (the work); the ties are given (YtcocjjapmmpgaaaDoorTie.lean); close each card by the builder's one call (the guide's Derived/Test/ToyasCard.lean, 'card_holds'). Laid BY PROGRAM, IN A SANDBOX (cutbox-door.mjs). By AI agents, Wed Nov 11 2026. No macro, syntax, notation, axiom, sorry.
-/
import Derived.Test.YtcocjjapmmpgaaaDoorRows
import GoSem.ClaimSeven
namespace Go.Proofs.YtcocjjapmmpgaaaDoor
namespace Rows

/-- THE TIED CARD OF 'metronomelaw06.SpanSums'. -/
def spanSumsCard : Claim7 := { stood := { row := spanSumsRow, standIns := [], harness := (true, "832180b1553133468d495cf9d9c7f24712ce5257596e01863725c6f52ebc26b0"), looks := false }, kinds := [], alts := [], laidByText := true, laidKinds := [.data, .data, .data], laidTests := true, laidLooks := .later }
def SpanSumsCardSaid : Prop := Claim7.holds Tryd.pinned (.plain (OpenSpec.ofChange spanSumsSpec)) spanSumsCard

/-- THE TIED CARD OF 'metronomelaw06.SpanTicks'. -/
def spanTicksCard : Claim7 := { stood := { row := spanTicksRow, standIns := [], harness := (true, "832180b1553133468d495cf9d9c7f24712ce5257596e01863725c6f52ebc26b0"), looks := false }, kinds := [], alts := [], laidByText := true, laidKinds := [.data, .data, .data], laidTests := true, laidLooks := .later }
def SpanTicksCardSaid : Prop := Claim7.holds Tryd.pinned (.plain (OpenSpec.ofChange spanTicksSpec)) spanTicksCard

/-- THE TIED CARD OF 'metronomelaw06.SpanTexts'. -/
def spanTextsCard : Claim7 := { stood := { row := spanTextsRow, standIns := [], harness := (true, "832180b1553133468d495cf9d9c7f24712ce5257596e01863725c6f52ebc26b0"), looks := false }, kinds := [], alts := [], laidByText := true, laidKinds := [.data, .data, .data], laidTests := true, laidLooks := .later }
def SpanTextsCardSaid : Prop := Claim7.holds Tryd.pinned (.plain (OpenSpec.ofChange spanTextsSpec)) spanTextsCard

/-- THE TIED CARD OF 'metronomelaw06.SpanBack'. -/
def spanBackCard : Claim7 := { stood := { row := spanBackRow, standIns := [], harness := (true, "832180b1553133468d495cf9d9c7f24712ce5257596e01863725c6f52ebc26b0"), looks := false }, kinds := [], alts := [], laidByText := true, laidKinds := [.data, .data, .data], laidTests := true, laidLooks := .later }
def SpanBackCardSaid : Prop := Claim7.holds Tryd.pinned (.plain (OpenSpec.ofChange spanBackSpec)) spanBackCard

/-- THE TIED CARD OF 'metronomelaw06.SpanAdds'. -/
def spanAddsCard : Claim7 := { stood := { row := spanAddsRow, standIns := [], harness := (true, "832180b1553133468d495cf9d9c7f24712ce5257596e01863725c6f52ebc26b0"), looks := false }, kinds := [], alts := [], laidByText := true, laidKinds := [.data, .data, .data], laidTests := true, laidLooks := .later }
def SpanAddsCardSaid : Prop := Claim7.holds Tryd.pinned (.plain (OpenSpec.ofChange spanAddsSpec)) spanAddsCard

/-- THE TIED CARD OF 'metronomelaw06.SpanBounds'. -/
def spanBoundsCard : Claim7 := { stood := { row := spanBoundsRow, standIns := [], harness := (true, "832180b1553133468d495cf9d9c7f24712ce5257596e01863725c6f52ebc26b0"), looks := false }, kinds := [], alts := [], laidByText := true, laidKinds := [.data, .data, .data], laidTests := true, laidLooks := .later }
def SpanBoundsCardSaid : Prop := Claim7.holds Tryd.pinned (.plain (OpenSpec.ofChange spanBoundsSpec)) spanBoundsCard

/-- THE SECOND FORM's CARD OF 'metronomelaw06.SpanSums'. -/
def spanSumsUptoCard : Claim7 := { stood := { row := spanSumsUptoRow, standIns := [], harness := (true, "832180b1553133468d495cf9d9c7f24712ce5257596e01863725c6f52ebc26b0"), looks := false }, kinds := [], alts := [], laidByText := true, laidKinds := [.data, .data, .data], laidTests := true, laidLooks := .later }
def SpanSumsUptoCardSaid : Prop := Claim7.holds Tryd.pinned (.plain (OpenSpec.upto spanSumsSpec)) spanSumsUptoCard

/-- THE SECOND FORM's CARD OF 'metronomelaw06.SpanTicks'. -/
def spanTicksUptoCard : Claim7 := { stood := { row := spanTicksUptoRow, standIns := [], harness := (true, "832180b1553133468d495cf9d9c7f24712ce5257596e01863725c6f52ebc26b0"), looks := false }, kinds := [], alts := [], laidByText := true, laidKinds := [.data, .data, .data], laidTests := true, laidLooks := .later }
def SpanTicksUptoCardSaid : Prop := Claim7.holds Tryd.pinned (.plain (OpenSpec.upto spanTicksSpec)) spanTicksUptoCard

/-- THE SECOND FORM's CARD OF 'metronomelaw06.SpanTexts'. -/
def spanTextsUptoCard : Claim7 := { stood := { row := spanTextsUptoRow, standIns := [], harness := (true, "832180b1553133468d495cf9d9c7f24712ce5257596e01863725c6f52ebc26b0"), looks := false }, kinds := [], alts := [], laidByText := true, laidKinds := [.data, .data, .data], laidTests := true, laidLooks := .later }
def SpanTextsUptoCardSaid : Prop := Claim7.holds Tryd.pinned (.plain (OpenSpec.upto spanTextsSpec)) spanTextsUptoCard

/-- THE SECOND FORM's CARD OF 'metronomelaw06.SpanBack'. -/
def spanBackUptoCard : Claim7 := { stood := { row := spanBackUptoRow, standIns := [], harness := (true, "832180b1553133468d495cf9d9c7f24712ce5257596e01863725c6f52ebc26b0"), looks := false }, kinds := [], alts := [], laidByText := true, laidKinds := [.data, .data, .data], laidTests := true, laidLooks := .later }
def SpanBackUptoCardSaid : Prop := Claim7.holds Tryd.pinned (.plain (OpenSpec.upto spanBackSpec)) spanBackUptoCard

/-- THE SECOND FORM's CARD OF 'metronomelaw06.SpanAdds'. -/
def spanAddsUptoCard : Claim7 := { stood := { row := spanAddsUptoRow, standIns := [], harness := (true, "832180b1553133468d495cf9d9c7f24712ce5257596e01863725c6f52ebc26b0"), looks := false }, kinds := [], alts := [], laidByText := true, laidKinds := [.data, .data, .data], laidTests := true, laidLooks := .later }
def SpanAddsUptoCardSaid : Prop := Claim7.holds Tryd.pinned (.plain (OpenSpec.upto spanAddsSpec)) spanAddsUptoCard

/-- THE SECOND FORM's CARD OF 'metronomelaw06.SpanBounds'. -/
def spanBoundsUptoCard : Claim7 := { stood := { row := spanBoundsUptoRow, standIns := [], harness := (true, "832180b1553133468d495cf9d9c7f24712ce5257596e01863725c6f52ebc26b0"), looks := false }, kinds := [], alts := [], laidByText := true, laidKinds := [.data, .data, .data], laidTests := true, laidLooks := .later }
def SpanBoundsUptoCardSaid : Prop := Claim7.holds Tryd.pinned (.plain (OpenSpec.upto spanBoundsSpec)) spanBoundsUptoCard
end Rows
end Go.Proofs.YtcocjjapmmpgaaaDoor
