/-
  No cell of these rows narrows 'for every input' (looked for: loops, veiled, ifaces, maps, wideKeys, modest, calm, conditions, laid).
  DERIVED. THE GIVEN ROWS OF THIS SEAT. 4 by the template 'for every input the law returns true; each argument reads behind the call as it read before'; 0 by the template 'total and deterministic' (their statements: YtnmlcijkggfhmaaTotals.lean).
  GIVEN WITH THE SEED: the statements are not yours to turn. If you find one false, say at which input.
  Laid BY PROGRAM, IN A SANDBOX (cutbox-rows.mjs): the forced cells as the released guide's own fill.sh prints them over the translation 04749b4cc8af1566… (all of the seat's roots in one cut). By AI agents, Wed Nov 11 2026. No macro, syntax, notation, axiom, sorry.
-/
import Derived.Test.YtnmlcijkggfhmaaChecked
import GoSem.Claim
import GoSem.ClaimJoined
import GoSem.ClaimMapViews
import Derived.JoinedTies
import Derived.KernelRfl
namespace Go.Proofs.Ytnmlcijkggfhmaa
/- THE CELL 'sum', in the pinned program and in every row, IS THE sha256 OF THE DUMP (.gsa) THAT YtnmlcijkggfhmaaProg.lean LOADS. Nothing in Lean hashes anything: it is a label: what it is worth is what the hold of that sum in a sandbox is worth. -/
noncomputable def Try.pinned : Pinned := { name := "ytnmlcijkggfhmaa", sum := "04749b4cc8af15660e820366f64f758dbb4065bebe1b0181e915aa43bd050acc", checked := Try.checked }
namespace Rows
def none {H : Type} : Left H := { results := [], args := [] }

/-- 'metronomelaw17.SignalsQueue': WHATEVER THE INPUT: true; the input reads as it did. -/
def signalsQueueSpec : ChangeSpec := { name := "signalsQueue", fn := fun _ => fun
  | [d1, d2] => { results := [.lit (.bool true)], args := [d1, d2] }
  | _ => none }
def signalsQueueRow : OpenClaim := { program := "ytnmlcijkggfhmaa", sum := "04749b4cc8af15660e820366f64f758dbb4065bebe1b0181e915aa43bd050acc", func := "metronome/metronomelaw17.SignalsQueue", spec := "signalsQueue", unfollowed := true, recurses := true, plainKeys := false, apart := false }
def SignalsQueueSaid : Prop := signalsQueueRow.holds Try.pinned (OpenSpec.ofChange signalsQueueSpec)

/-- ITS FALSE NEIGHBOUR: 'it returns false'. Refute it at one input. -/
def signalsQueueWrong : ChangeSpec := { name := "signalsQueue", fn := fun _ => fun
  | [d1, d2] => { results := [.lit (.bool false)], args := [d1, d2] }
  | _ => none }
def SignalsQueueWrongFalsely : Prop := signalsQueueRow.holds Try.pinned (OpenSpec.ofChange signalsQueueWrong)

/-- 'metronomelaw17.SignalsSteps': WHATEVER THE INPUT: true; the input reads as it did. -/
def signalsStepsSpec : ChangeSpec := { name := "signalsSteps", fn := fun _ => fun
  | [d1, d2, d3] => { results := [.lit (.bool true)], args := [d1, d2, d3] }
  | _ => none }
def signalsStepsRow : OpenClaim := { program := "ytnmlcijkggfhmaa", sum := "04749b4cc8af15660e820366f64f758dbb4065bebe1b0181e915aa43bd050acc", func := "metronome/metronomelaw17.SignalsSteps", spec := "signalsSteps", unfollowed := true, recurses := true, plainKeys := false, apart := false }
def SignalsStepsSaid : Prop := signalsStepsRow.holds Try.pinned (OpenSpec.ofChange signalsStepsSpec)

/-- ITS FALSE NEIGHBOUR: 'it returns false'. Refute it at one input. -/
def signalsStepsWrong : ChangeSpec := { name := "signalsSteps", fn := fun _ => fun
  | [d1, d2, d3] => { results := [.lit (.bool false)], args := [d1, d2, d3] }
  | _ => none }
def SignalsStepsWrongFalsely : Prop := signalsStepsRow.holds Try.pinned (OpenSpec.ofChange signalsStepsWrong)

/-- 'metronomelaw17.SignalsSame': WHATEVER THE INPUT: true; the input reads as it did. -/
def signalsSameSpec : ChangeSpec := { name := "signalsSame", fn := fun _ => fun
  | [d1, d2, d3] => { results := [.lit (.bool true)], args := [d1, d2, d3] }
  | _ => none }
def signalsSameRow : OpenClaim := { program := "ytnmlcijkggfhmaa", sum := "04749b4cc8af15660e820366f64f758dbb4065bebe1b0181e915aa43bd050acc", func := "metronome/metronomelaw17.SignalsSame", spec := "signalsSame", unfollowed := true, recurses := true, plainKeys := false, apart := false }
def SignalsSameSaid : Prop := signalsSameRow.holds Try.pinned (OpenSpec.ofChange signalsSameSpec)

/-- ITS FALSE NEIGHBOUR: 'it returns false'. Refute it at one input. -/
def signalsSameWrong : ChangeSpec := { name := "signalsSame", fn := fun _ => fun
  | [d1, d2, d3] => { results := [.lit (.bool false)], args := [d1, d2, d3] }
  | _ => none }
def SignalsSameWrongFalsely : Prop := signalsSameRow.holds Try.pinned (OpenSpec.ofChange signalsSameWrong)

/-- 'metronomelaw17.SignalsNil': WHATEVER THE INPUT: true; the input reads as it did. -/
def signalsNilSpec : ChangeSpec := { name := "signalsNil", fn := fun _ => fun
  | [] => { results := [.lit (.bool true)], args := [] }
  | _ => none }
def signalsNilRow : OpenClaim := { program := "ytnmlcijkggfhmaa", sum := "04749b4cc8af15660e820366f64f758dbb4065bebe1b0181e915aa43bd050acc", func := "metronome/metronomelaw17.SignalsNil", spec := "signalsNil", unfollowed := true, recurses := true, plainKeys := false, apart := false }
def SignalsNilSaid : Prop := signalsNilRow.holds Try.pinned (OpenSpec.ofChange signalsNilSpec)

/-- ITS FALSE NEIGHBOUR: 'it returns false'. Refute it at one input. -/
def signalsNilWrong : ChangeSpec := { name := "signalsNil", fn := fun _ => fun
  | [] => { results := [.lit (.bool false)], args := [] }
  | _ => none }
def SignalsNilWrongFalsely : Prop := signalsNilRow.holds Try.pinned (OpenSpec.ofChange signalsNilWrong)

/- THE SECOND FORM. 'bulk': how many values and letters a reading holds, each counted each time it is reached (what is shared counts as often as it is met; a slice's spare places count too). A statement '..UptoSaid' is the law's where the arguments, and the package variables that the reading takes, are together of bulk at most 1048576: NARROWER than '..Said'. Prove '..Said' where nothing that the law and all that it calls make is longer than what came in: it says more and counts as full. Else prove '..UptoSaid'. A law counts once. -/
mutual
def uptoBulk {H : Type} : DataW H → Nat
  | .lit (.string bytes) => bytes.length + 1
  | .lit _ => 1
  | .nil => 1
  | .ptr d => uptoBulk d + 1
  | .slice elems spare => uptoBulkAll elems + uptoBulkAll spare + 1
  | .agg parts => uptoBulkAll parts + 1
  | .iface _ d => uptoBulk d + 1
  | .map entries => uptoBulkEntries entries + 1
  | .held _ => 1
def uptoBulkAll {H : Type} : List (DataW H) → Nat
  | [] => 0
  | d :: r => uptoBulk d + uptoBulkAll r
def uptoBulkEntries {H : Type} : List (Lit × DataW H) → Nat
  | [] => 0
  | x :: r => uptoBulkEntry x + uptoBulkEntries r
def uptoBulkEntry {H : Type} : Lit × DataW H → Nat
  | (.string bytes, d) => bytes.length + uptoBulk d + 1
  | (_, d) => uptoBulk d + 1
 end
def uptoSmall : (H : Type) → List (DataW H) → Bool := fun _ ds => decide (uptoBulkAll ds ≤ 1048576)
def OpenSpec.upto (s : _root_.Go.ChangeSpec) : _root_.Go.OpenSpec := { _root_.Go.OpenSpec.ofChange s with cond := some uptoSmall }

/-- 'metronomelaw17.SignalsQueue', WHERE WHAT IT READS IS OF BULK AT MOST 1048576: true; the input reads as it did. -/
def signalsQueueUptoRow : OpenClaim := { program := "ytnmlcijkggfhmaa", sum := "04749b4cc8af15660e820366f64f758dbb4065bebe1b0181e915aa43bd050acc", func := "metronome/metronomelaw17.SignalsQueue", spec := "signalsQueue", unfollowed := true, recurses := true, plainKeys := false, apart := false, narrowed := true }
def SignalsQueueUptoSaid : Prop := signalsQueueUptoRow.holds Try.pinned (OpenSpec.upto signalsQueueSpec)

/-- 'metronomelaw17.SignalsSteps', WHERE WHAT IT READS IS OF BULK AT MOST 1048576: true; the input reads as it did. -/
def signalsStepsUptoRow : OpenClaim := { program := "ytnmlcijkggfhmaa", sum := "04749b4cc8af15660e820366f64f758dbb4065bebe1b0181e915aa43bd050acc", func := "metronome/metronomelaw17.SignalsSteps", spec := "signalsSteps", unfollowed := true, recurses := true, plainKeys := false, apart := false, narrowed := true }
def SignalsStepsUptoSaid : Prop := signalsStepsUptoRow.holds Try.pinned (OpenSpec.upto signalsStepsSpec)

/-- 'metronomelaw17.SignalsSame', WHERE WHAT IT READS IS OF BULK AT MOST 1048576: true; the input reads as it did. -/
def signalsSameUptoRow : OpenClaim := { program := "ytnmlcijkggfhmaa", sum := "04749b4cc8af15660e820366f64f758dbb4065bebe1b0181e915aa43bd050acc", func := "metronome/metronomelaw17.SignalsSame", spec := "signalsSame", unfollowed := true, recurses := true, plainKeys := false, apart := false, narrowed := true }
def SignalsSameUptoSaid : Prop := signalsSameUptoRow.holds Try.pinned (OpenSpec.upto signalsSameSpec)

/-- 'metronomelaw17.SignalsNil', WHERE WHAT IT READS IS OF BULK AT MOST 1048576: true; the input reads as it did. -/
def signalsNilUptoRow : OpenClaim := { program := "ytnmlcijkggfhmaa", sum := "04749b4cc8af15660e820366f64f758dbb4065bebe1b0181e915aa43bd050acc", func := "metronome/metronomelaw17.SignalsNil", spec := "signalsNil", unfollowed := true, recurses := true, plainKeys := false, apart := false, narrowed := true }
def SignalsNilUptoSaid : Prop := signalsNilUptoRow.holds Try.pinned (OpenSpec.upto signalsNilSpec)

end Rows
end Go.Proofs.Ytnmlcijkggfhmaa
