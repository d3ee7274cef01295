/-
  No cell of these rows narrows 'for every input' (looked for: loops, veiled, ifaces, maps, wideKeys, modest, calm, conditions, laid).
  DERIVED. THE GIVEN ROWS OF THIS SEAT. 6 by the template 'for every input the law returns true; each argument reads behind the call as it read before'; 0 by the template 'total and deterministic' (their statements: YtnndengdlokmbaaTotals.lean).
  GIVEN WITH THE SEED: the statements are not yours to turn. If you find one false, say at which input.
  Laid BY PROGRAM, IN A SANDBOX (cutbox-rows.mjs): the forced cells as the released guide's own fill.sh prints them over the translation 613a9dcfdbf1a62a… (all of the seat's roots in one cut). By AI agents, Wed Nov 11 2026. No macro, syntax, notation, axiom, sorry.
-/
import Derived.Test.YtnndengdlokmbaaChecked
import GoSem.Claim
import GoSem.ClaimJoined
import GoSem.ClaimMapViews
import Derived.JoinedTies
import Derived.KernelRfl
namespace Go.Proofs.Ytnndengdlokmbaa
/- THE CELL 'sum', in the pinned program and in every row, IS THE sha256 OF THE DUMP (.gsa) THAT YtnndengdlokmbaaProg.lean LOADS. Nothing in Lean hashes anything: it is a label: what it is worth is what the hold of that sum in a sandbox is worth. -/
noncomputable def Try.pinned : Pinned := { name := "ytnndengdlokmbaa", sum := "613a9dcfdbf1a62a137f4c1da3bdf146a4bbe330c0a0d57b2caf330d37e67a6a", checked := Try.checked }
namespace Rows
def none {H : Type} : Left H := { results := [], args := [] }

/-- 'metronomelaw10.TurnsRobin': WHATEVER THE INPUT: true; the input reads as it did. -/
def turnsRobinSpec : ChangeSpec := { name := "turnsRobin", fn := fun _ => fun
  | [d1, d2, d3, d4] => { results := [.lit (.bool true)], args := [d1, d2, d3, d4] }
  | _ => none }
def turnsRobinRow : OpenClaim := { program := "ytnndengdlokmbaa", sum := "613a9dcfdbf1a62a137f4c1da3bdf146a4bbe330c0a0d57b2caf330d37e67a6a", func := "metronome/metronomelaw10.TurnsRobin", spec := "turnsRobin", unfollowed := true, recurses := true, apart := false }
def TurnsRobinSaid : Prop := turnsRobinRow.holds Try.pinned (OpenSpec.ofChange turnsRobinSpec)

/-- ITS FALSE NEIGHBOUR: 'it returns false'. Refute it at one input. -/
def turnsRobinWrong : ChangeSpec := { name := "turnsRobin", fn := fun _ => fun
  | [d1, d2, d3, d4] => { results := [.lit (.bool false)], args := [d1, d2, d3, d4] }
  | _ => none }
def TurnsRobinWrongFalsely : Prop := turnsRobinRow.holds Try.pinned (OpenSpec.ofChange turnsRobinWrong)

/-- 'metronomelaw10.TurnsFifo': WHATEVER THE INPUT: true; the input reads as it did. -/
def turnsFifoSpec : ChangeSpec := { name := "turnsFifo", fn := fun _ => fun
  | [d1, d2, d3] => { results := [.lit (.bool true)], args := [d1, d2, d3] }
  | _ => none }
def turnsFifoRow : OpenClaim := { program := "ytnndengdlokmbaa", sum := "613a9dcfdbf1a62a137f4c1da3bdf146a4bbe330c0a0d57b2caf330d37e67a6a", func := "metronome/metronomelaw10.TurnsFifo", spec := "turnsFifo", unfollowed := true, recurses := true, apart := false }
def TurnsFifoSaid : Prop := turnsFifoRow.holds Try.pinned (OpenSpec.ofChange turnsFifoSpec)

/-- ITS FALSE NEIGHBOUR: 'it returns false'. Refute it at one input. -/
def turnsFifoWrong : ChangeSpec := { name := "turnsFifo", fn := fun _ => fun
  | [d1, d2, d3] => { results := [.lit (.bool false)], args := [d1, d2, d3] }
  | _ => none }
def TurnsFifoWrongFalsely : Prop := turnsFifoRow.holds Try.pinned (OpenSpec.ofChange turnsFifoWrong)

/-- 'metronomelaw10.TurnsGreatest': WHATEVER THE INPUT: true; the input reads as it did. -/
def turnsGreatestSpec : ChangeSpec := { name := "turnsGreatest", fn := fun _ => fun
  | [d1, d2] => { results := [.lit (.bool true)], args := [d1, d2] }
  | _ => none }
def turnsGreatestRow : OpenClaim := { program := "ytnndengdlokmbaa", sum := "613a9dcfdbf1a62a137f4c1da3bdf146a4bbe330c0a0d57b2caf330d37e67a6a", func := "metronome/metronomelaw10.TurnsGreatest", spec := "turnsGreatest", unfollowed := true, recurses := true, apart := false }
def TurnsGreatestSaid : Prop := turnsGreatestRow.holds Try.pinned (OpenSpec.ofChange turnsGreatestSpec)

/-- ITS FALSE NEIGHBOUR: 'it returns false'. Refute it at one input. -/
def turnsGreatestWrong : ChangeSpec := { name := "turnsGreatest", fn := fun _ => fun
  | [d1, d2] => { results := [.lit (.bool false)], args := [d1, d2] }
  | _ => none }
def TurnsGreatestWrongFalsely : Prop := turnsGreatestRow.holds Try.pinned (OpenSpec.ofChange turnsGreatestWrong)

/-- 'metronomelaw10.TurnsPlay': WHATEVER THE INPUT: true; the input reads as it did. -/
def turnsPlaySpec : ChangeSpec := { name := "turnsPlay", fn := fun _ => fun
  | [d1, d2] => { results := [.lit (.bool true)], args := [d1, d2] }
  | _ => none }
def turnsPlayRow : OpenClaim := { program := "ytnndengdlokmbaa", sum := "613a9dcfdbf1a62a137f4c1da3bdf146a4bbe330c0a0d57b2caf330d37e67a6a", func := "metronome/metronomelaw10.TurnsPlay", spec := "turnsPlay", unfollowed := true, recurses := true, apart := false }
def TurnsPlaySaid : Prop := turnsPlayRow.holds Try.pinned (OpenSpec.ofChange turnsPlaySpec)

/-- ITS FALSE NEIGHBOUR: 'it returns false'. Refute it at one input. -/
def turnsPlayWrong : ChangeSpec := { name := "turnsPlay", fn := fun _ => fun
  | [d1, d2] => { results := [.lit (.bool false)], args := [d1, d2] }
  | _ => none }
def TurnsPlayWrongFalsely : Prop := turnsPlayRow.holds Try.pinned (OpenSpec.ofChange turnsPlayWrong)

/-- 'metronomelaw10.TurnsCopies': WHATEVER THE INPUT: true; the input reads as it did. -/
def turnsCopiesSpec : ChangeSpec := { name := "turnsCopies", fn := fun _ => fun
  | [d1, d2, d3] => { results := [.lit (.bool true)], args := [d1, d2, d3] }
  | _ => none }
def turnsCopiesRow : OpenClaim := { program := "ytnndengdlokmbaa", sum := "613a9dcfdbf1a62a137f4c1da3bdf146a4bbe330c0a0d57b2caf330d37e67a6a", func := "metronome/metronomelaw10.TurnsCopies", spec := "turnsCopies", unfollowed := true, recurses := true, apart := false }
def TurnsCopiesSaid : Prop := turnsCopiesRow.holds Try.pinned (OpenSpec.ofChange turnsCopiesSpec)

/-- ITS FALSE NEIGHBOUR: 'it returns false'. Refute it at one input. -/
def turnsCopiesWrong : ChangeSpec := { name := "turnsCopies", fn := fun _ => fun
  | [d1, d2, d3] => { results := [.lit (.bool false)], args := [d1, d2, d3] }
  | _ => none }
def TurnsCopiesWrongFalsely : Prop := turnsCopiesRow.holds Try.pinned (OpenSpec.ofChange turnsCopiesWrong)

/-- 'metronomelaw10.TurnsNil': WHATEVER THE INPUT: true; the input reads as it did. -/
def turnsNilSpec : ChangeSpec := { name := "turnsNil", fn := fun _ => fun
  | [] => { results := [.lit (.bool true)], args := [] }
  | _ => none }
def turnsNilRow : OpenClaim := { program := "ytnndengdlokmbaa", sum := "613a9dcfdbf1a62a137f4c1da3bdf146a4bbe330c0a0d57b2caf330d37e67a6a", func := "metronome/metronomelaw10.TurnsNil", spec := "turnsNil", unfollowed := true, recurses := true, apart := false }
def TurnsNilSaid : Prop := turnsNilRow.holds Try.pinned (OpenSpec.ofChange turnsNilSpec)

/-- ITS FALSE NEIGHBOUR: 'it returns false'. Refute it at one input. -/
def turnsNilWrong : ChangeSpec := { name := "turnsNil", fn := fun _ => fun
  | [] => { results := [.lit (.bool false)], args := [] }
  | _ => none }
def TurnsNilWrongFalsely : Prop := turnsNilRow.holds Try.pinned (OpenSpec.ofChange turnsNilWrong)

/- THE SECOND FORM. 'bulk': how many values and letters a reading holds, each counted each time it is reached (what is shared counts as often as it is met; a slice's spare places count too). A statement '..UptoSaid' is the law's where the arguments, and the package variables that the reading takes, are together of bulk at most 1048576: NARROWER than '..Said'. Prove '..Said' where nothing that the law and all that it calls make is longer than what came in: it says more and counts as full. Else prove '..UptoSaid'. A law counts once. -/
mutual
def uptoBulk {H : Type} : DataW H → Nat
  | .lit (.string bytes) => bytes.length + 1
  | .lit _ => 1
  | .nil => 1
  | .ptr d => uptoBulk d + 1
  | .slice elems spare => uptoBulkAll elems + uptoBulkAll spare + 1
  | .agg parts => uptoBulkAll parts + 1
  | .iface _ d => uptoBulk d + 1
  | .map entries => uptoBulkEntries entries + 1
  | .held _ => 1
def uptoBulkAll {H : Type} : List (DataW H) → Nat
  | [] => 0
  | d :: r => uptoBulk d + uptoBulkAll r
def uptoBulkEntries {H : Type} : List (Lit × DataW H) → Nat
  | [] => 0
  | x :: r => uptoBulkEntry x + uptoBulkEntries r
def uptoBulkEntry {H : Type} : Lit × DataW H → Nat
  | (.string bytes, d) => bytes.length + uptoBulk d + 1
  | (_, d) => uptoBulk d + 1
 end
def uptoSmall : (H : Type) → List (DataW H) → Bool := fun _ ds => decide (uptoBulkAll ds ≤ 1048576)
def OpenSpec.upto (s : _root_.Go.ChangeSpec) : _root_.Go.OpenSpec := { _root_.Go.OpenSpec.ofChange s with cond := some uptoSmall }

/-- 'metronomelaw10.TurnsRobin', WHERE WHAT IT READS IS OF BULK AT MOST 1048576: true; the input reads as it did. -/
def turnsRobinUptoRow : OpenClaim := { program := "ytnndengdlokmbaa", sum := "613a9dcfdbf1a62a137f4c1da3bdf146a4bbe330c0a0d57b2caf330d37e67a6a", func := "metronome/metronomelaw10.TurnsRobin", spec := "turnsRobin", unfollowed := true, recurses := true, apart := false, narrowed := true }
def TurnsRobinUptoSaid : Prop := turnsRobinUptoRow.holds Try.pinned (OpenSpec.upto turnsRobinSpec)

/-- 'metronomelaw10.TurnsFifo', WHERE WHAT IT READS IS OF BULK AT MOST 1048576: true; the input reads as it did. -/
def turnsFifoUptoRow : OpenClaim := { program := "ytnndengdlokmbaa", sum := "613a9dcfdbf1a62a137f4c1da3bdf146a4bbe330c0a0d57b2caf330d37e67a6a", func := "metronome/metronomelaw10.TurnsFifo", spec := "turnsFifo", unfollowed := true, recurses := true, apart := false, narrowed := true }
def TurnsFifoUptoSaid : Prop := turnsFifoUptoRow.holds Try.pinned (OpenSpec.upto turnsFifoSpec)

/-- 'metronomelaw10.TurnsGreatest', WHERE WHAT IT READS IS OF BULK AT MOST 1048576: true; the input reads as it did. -/
def turnsGreatestUptoRow : OpenClaim := { program := "ytnndengdlokmbaa", sum := "613a9dcfdbf1a62a137f4c1da3bdf146a4bbe330c0a0d57b2caf330d37e67a6a", func := "metronome/metronomelaw10.TurnsGreatest", spec := "turnsGreatest", unfollowed := true, recurses := true, apart := false, narrowed := true }
def TurnsGreatestUptoSaid : Prop := turnsGreatestUptoRow.holds Try.pinned (OpenSpec.upto turnsGreatestSpec)

/-- 'metronomelaw10.TurnsPlay', WHERE WHAT IT READS IS OF BULK AT MOST 1048576: true; the input reads as it did. -/
def turnsPlayUptoRow : OpenClaim := { program := "ytnndengdlokmbaa", sum := "613a9dcfdbf1a62a137f4c1da3bdf146a4bbe330c0a0d57b2caf330d37e67a6a", func := "metronome/metronomelaw10.TurnsPlay", spec := "turnsPlay", unfollowed := true, recurses := true, apart := false, narrowed := true }
def TurnsPlayUptoSaid : Prop := turnsPlayUptoRow.holds Try.pinned (OpenSpec.upto turnsPlaySpec)

/-- 'metronomelaw10.TurnsCopies', WHERE WHAT IT READS IS OF BULK AT MOST 1048576: true; the input reads as it did. -/
def turnsCopiesUptoRow : OpenClaim := { program := "ytnndengdlokmbaa", sum := "613a9dcfdbf1a62a137f4c1da3bdf146a4bbe330c0a0d57b2caf330d37e67a6a", func := "metronome/metronomelaw10.TurnsCopies", spec := "turnsCopies", unfollowed := true, recurses := true, apart := false, narrowed := true }
def TurnsCopiesUptoSaid : Prop := turnsCopiesUptoRow.holds Try.pinned (OpenSpec.upto turnsCopiesSpec)

/-- 'metronomelaw10.TurnsNil', WHERE WHAT IT READS IS OF BULK AT MOST 1048576: true; the input reads as it did. -/
def turnsNilUptoRow : OpenClaim := { program := "ytnndengdlokmbaa", sum := "613a9dcfdbf1a62a137f4c1da3bdf146a4bbe330c0a0d57b2caf330d37e67a6a", func := "metronome/metronomelaw10.TurnsNil", spec := "turnsNil", unfollowed := true, recurses := true, apart := false, narrowed := true }
def TurnsNilUptoSaid : Prop := turnsNilUptoRow.holds Try.pinned (OpenSpec.upto turnsNilSpec)

end Rows
end Go.Proofs.Ytnndengdlokmbaa
