/-
  No cell of these rows narrows 'for every input' (looked for: loops, veiled, ifaces, maps, wideKeys, modest, calm, conditions, laid).
  DERIVED. THE GIVEN ROWS OF THIS SEAT. 3 by the template 'for every input the law returns true; each argument reads behind the call as it read before'; 0 by the template 'total and deterministic' (their statements: YtidllhnldhnoeaaTotals.lean).
  GIVEN WITH THE SEED: the statements are not yours to turn. If you find one false, say at which input.
  Laid BY PROGRAM, IN A SANDBOX (cutbox-rows.mjs): the forced cells as the released guide's own fill.sh prints them over the translation 38194066eb780f2d… (all of the seat's roots in one cut). By AI agents, Wed Nov 11 2026. No macro, syntax, notation, axiom, sorry.
-/
import Derived.Test.YtidllhnldhnoeaaChecked
import GoSem.Claim
import GoSem.ClaimJoined
import GoSem.ClaimMapViews
import Derived.JoinedTies
import Derived.KernelRfl
namespace Go.Proofs.Ytidllhnldhnoeaa
/- THE CELL 'sum', in the pinned program and in every row, IS THE sha256 OF THE DUMP (.gsa) THAT YtidllhnldhnoeaaProg.lean LOADS. Nothing in Lean hashes anything: it is a label: what it is worth is what the hold of that sum in a sandbox is worth. -/
noncomputable def Try.pinned : Pinned := { name := "ytidllhnldhnoeaa", sum := "38194066eb780f2d7438154037b4455186f7c855879686404299056d13dc5b49", checked := Try.checked }
namespace Rows
def none {H : Type} : Left H := { results := [], args := [] }

/-- 'metronomelaw11.ServerKeeps': WHATEVER THE INPUT: true; the input reads as it did. -/
def serverKeepsSpec : ChangeSpec := { name := "serverKeeps", fn := fun _ => fun
  | [d1, d2, d3, d4] => { results := [.lit (.bool true)], args := [d1, d2, d3, d4] }
  | _ => none }
def serverKeepsRow : OpenClaim := { program := "ytidllhnldhnoeaa", sum := "38194066eb780f2d7438154037b4455186f7c855879686404299056d13dc5b49", func := "metronome/metronomelaw11.ServerKeeps", spec := "serverKeeps", unfollowed := true, recurses := true, apart := false }
def ServerKeepsSaid : Prop := serverKeepsRow.holds Try.pinned (OpenSpec.ofChange serverKeepsSpec)

/-- ITS FALSE NEIGHBOUR: 'it returns false'. Refute it at one input. -/
def serverKeepsWrong : ChangeSpec := { name := "serverKeeps", fn := fun _ => fun
  | [d1, d2, d3, d4] => { results := [.lit (.bool false)], args := [d1, d2, d3, d4] }
  | _ => none }
def ServerKeepsWrongFalsely : Prop := serverKeepsRow.holds Try.pinned (OpenSpec.ofChange serverKeepsWrong)

/-- 'metronomelaw11.ServerBounds': WHATEVER THE INPUT: true; the input reads as it did. -/
def serverBoundsSpec : ChangeSpec := { name := "serverBounds", fn := fun _ => fun
  | [d1, d2, d3, d4] => { results := [.lit (.bool true)], args := [d1, d2, d3, d4] }
  | _ => none }
def serverBoundsRow : OpenClaim := { program := "ytidllhnldhnoeaa", sum := "38194066eb780f2d7438154037b4455186f7c855879686404299056d13dc5b49", func := "metronome/metronomelaw11.ServerBounds", spec := "serverBounds", unfollowed := true, recurses := true, apart := false }
def ServerBoundsSaid : Prop := serverBoundsRow.holds Try.pinned (OpenSpec.ofChange serverBoundsSpec)

/-- ITS FALSE NEIGHBOUR: 'it returns false'. Refute it at one input. -/
def serverBoundsWrong : ChangeSpec := { name := "serverBounds", fn := fun _ => fun
  | [d1, d2, d3, d4] => { results := [.lit (.bool false)], args := [d1, d2, d3, d4] }
  | _ => none }
def ServerBoundsWrongFalsely : Prop := serverBoundsRow.holds Try.pinned (OpenSpec.ofChange serverBoundsWrong)

/-- 'metronomelaw11.ServerNil': WHATEVER THE INPUT: true; the input reads as it did. -/
def serverNilSpec : ChangeSpec := { name := "serverNil", fn := fun _ => fun
  | [] => { results := [.lit (.bool true)], args := [] }
  | _ => none }
def serverNilRow : OpenClaim := { program := "ytidllhnldhnoeaa", sum := "38194066eb780f2d7438154037b4455186f7c855879686404299056d13dc5b49", func := "metronome/metronomelaw11.ServerNil", spec := "serverNil", unfollowed := true, recurses := true, apart := false }
def ServerNilSaid : Prop := serverNilRow.holds Try.pinned (OpenSpec.ofChange serverNilSpec)

/-- ITS FALSE NEIGHBOUR: 'it returns false'. Refute it at one input. -/
def serverNilWrong : ChangeSpec := { name := "serverNil", fn := fun _ => fun
  | [] => { results := [.lit (.bool false)], args := [] }
  | _ => none }
def ServerNilWrongFalsely : Prop := serverNilRow.holds Try.pinned (OpenSpec.ofChange serverNilWrong)

/- THE SECOND FORM. 'bulk': how many values and letters a reading holds, each counted each time it is reached (what is shared counts as often as it is met; a slice's spare places count too). A statement '..UptoSaid' is the law's where the arguments, and the package variables that the reading takes, are together of bulk at most 1048576: NARROWER than '..Said'. Prove '..Said' where nothing that the law and all that it calls make is longer than what came in: it says more and counts as full. Else prove '..UptoSaid'. A law counts once. -/
mutual
def uptoBulk {H : Type} : DataW H → Nat
  | .lit (.string bytes) => bytes.length + 1
  | .lit _ => 1
  | .nil => 1
  | .ptr d => uptoBulk d + 1
  | .slice elems spare => uptoBulkAll elems + uptoBulkAll spare + 1
  | .agg parts => uptoBulkAll parts + 1
  | .iface _ d => uptoBulk d + 1
  | .map entries => uptoBulkEntries entries + 1
  | .held _ => 1
def uptoBulkAll {H : Type} : List (DataW H) → Nat
  | [] => 0
  | d :: r => uptoBulk d + uptoBulkAll r
def uptoBulkEntries {H : Type} : List (Lit × DataW H) → Nat
  | [] => 0
  | x :: r => uptoBulkEntry x + uptoBulkEntries r
def uptoBulkEntry {H : Type} : Lit × DataW H → Nat
  | (.string bytes, d) => bytes.length + uptoBulk d + 1
  | (_, d) => uptoBulk d + 1
 end
def uptoSmall : (H : Type) → List (DataW H) → Bool := fun _ ds => decide (uptoBulkAll ds ≤ 1048576)
def OpenSpec.upto (s : _root_.Go.ChangeSpec) : _root_.Go.OpenSpec := { _root_.Go.OpenSpec.ofChange s with cond := some uptoSmall }

/-- 'metronomelaw11.ServerKeeps', WHERE WHAT IT READS IS OF BULK AT MOST 1048576: true; the input reads as it did. -/
def serverKeepsUptoRow : OpenClaim := { program := "ytidllhnldhnoeaa", sum := "38194066eb780f2d7438154037b4455186f7c855879686404299056d13dc5b49", func := "metronome/metronomelaw11.ServerKeeps", spec := "serverKeeps", unfollowed := true, recurses := true, apart := false, narrowed := true }
def ServerKeepsUptoSaid : Prop := serverKeepsUptoRow.holds Try.pinned (OpenSpec.upto serverKeepsSpec)

/-- 'metronomelaw11.ServerBounds', WHERE WHAT IT READS IS OF BULK AT MOST 1048576: true; the input reads as it did. -/
def serverBoundsUptoRow : OpenClaim := { program := "ytidllhnldhnoeaa", sum := "38194066eb780f2d7438154037b4455186f7c855879686404299056d13dc5b49", func := "metronome/metronomelaw11.ServerBounds", spec := "serverBounds", unfollowed := true, recurses := true, apart := false, narrowed := true }
def ServerBoundsUptoSaid : Prop := serverBoundsUptoRow.holds Try.pinned (OpenSpec.upto serverBoundsSpec)

/-- 'metronomelaw11.ServerNil', WHERE WHAT IT READS IS OF BULK AT MOST 1048576: true; the input reads as it did. -/
def serverNilUptoRow : OpenClaim := { program := "ytidllhnldhnoeaa", sum := "38194066eb780f2d7438154037b4455186f7c855879686404299056d13dc5b49", func := "metronome/metronomelaw11.ServerNil", spec := "serverNil", unfollowed := true, recurses := true, apart := false, narrowed := true }
def ServerNilUptoSaid : Prop := serverNilUptoRow.holds Try.pinned (OpenSpec.upto serverNilSpec)

end Rows
end Go.Proofs.Ytidllhnldhnoeaa
