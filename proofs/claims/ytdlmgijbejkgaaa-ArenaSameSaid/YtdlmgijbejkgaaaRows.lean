/-
  No cell of these rows narrows 'for every input' (looked for: loops, veiled, ifaces, maps, wideKeys, modest, calm, conditions, laid).
  DERIVED. THE GIVEN ROWS OF THIS SEAT. 4 by the template 'for every input the law returns true; each argument reads behind the call as it read before'; 0 by the template 'total and deterministic' (their statements: YtdlmgijbejkgaaaTotals.lean).
  GIVEN WITH THE SEED: the statements are not yours to turn. If you find one false, say at which input.
  Laid BY PROGRAM, IN A SANDBOX (cutbox-rows.mjs): the forced cells as the released guide's own fill.sh prints them over the translation ce00caaea4fa6b12… (all of the seat's roots in one cut). By AI agents, Wed Nov 11 2026. No macro, syntax, notation, axiom, sorry.
-/
import Derived.Test.YtdlmgijbejkgaaaChecked
import GoSem.Claim
import GoSem.ClaimJoined
import GoSem.ClaimMapViews
import Derived.JoinedTies
import Derived.KernelRfl
namespace Go.Proofs.Ytdlmgijbejkgaaa
/- THE CELL 'sum', in the pinned program and in every row, IS THE sha256 OF THE DUMP (.gsa) THAT YtdlmgijbejkgaaaProg.lean LOADS. Nothing in Lean hashes anything: it is a label: what it is worth is what the hold of that sum in a sandbox is worth. -/
noncomputable def Try.pinned : Pinned := { name := "ytdlmgijbejkgaaa", sum := "ce00caaea4fa6b121f52526a781e312f9c2c35f351ecb41e3b1a682e7c8a3985", checked := Try.checked }
namespace Rows
def none {H : Type} : Left H := { results := [], args := [] }

/-- 'metronomelaw02.ArenaWords': WHATEVER THE INPUT: true; the input reads as it did. -/
def arenaWordsSpec : ChangeSpec := { name := "arenaWords", fn := fun _ => fun
  | [d1, d2, d3] => { results := [.lit (.bool true)], args := [d1, d2, d3] }
  | _ => none }
def arenaWordsRow : OpenClaim := { program := "ytdlmgijbejkgaaa", sum := "ce00caaea4fa6b121f52526a781e312f9c2c35f351ecb41e3b1a682e7c8a3985", func := "metronome/metronomelaw02.ArenaWords", spec := "arenaWords", unfollowed := true, recurses := true, apart := false }
def ArenaWordsSaid : Prop := arenaWordsRow.holds Try.pinned (OpenSpec.ofChange arenaWordsSpec)

/-- ITS FALSE NEIGHBOUR: 'it returns false'. Refute it at one input. -/
def arenaWordsWrong : ChangeSpec := { name := "arenaWords", fn := fun _ => fun
  | [d1, d2, d3] => { results := [.lit (.bool false)], args := [d1, d2, d3] }
  | _ => none }
def ArenaWordsWrongFalsely : Prop := arenaWordsRow.holds Try.pinned (OpenSpec.ofChange arenaWordsWrong)

/-- 'metronomelaw02.ArenaSame': WHATEVER THE INPUT: true; the input reads as it did. -/
def arenaSameSpec : ChangeSpec := { name := "arenaSame", fn := fun _ => fun
  | [d1, d2, d3] => { results := [.lit (.bool true)], args := [d1, d2, d3] }
  | _ => none }
def arenaSameRow : OpenClaim := { program := "ytdlmgijbejkgaaa", sum := "ce00caaea4fa6b121f52526a781e312f9c2c35f351ecb41e3b1a682e7c8a3985", func := "metronome/metronomelaw02.ArenaSame", spec := "arenaSame", unfollowed := true, recurses := true, apart := false }
def ArenaSameSaid : Prop := arenaSameRow.holds Try.pinned (OpenSpec.ofChange arenaSameSpec)

/-- ITS FALSE NEIGHBOUR: 'it returns false'. Refute it at one input. -/
def arenaSameWrong : ChangeSpec := { name := "arenaSame", fn := fun _ => fun
  | [d1, d2, d3] => { results := [.lit (.bool false)], args := [d1, d2, d3] }
  | _ => none }
def ArenaSameWrongFalsely : Prop := arenaSameRow.holds Try.pinned (OpenSpec.ofChange arenaSameWrong)

/-- 'metronomelaw02.ArenaSteps': WHATEVER THE INPUT: true; the input reads as it did. -/
def arenaStepsSpec : ChangeSpec := { name := "arenaSteps", fn := fun _ => fun
  | [d1, d2] => { results := [.lit (.bool true)], args := [d1, d2] }
  | _ => none }
def arenaStepsRow : OpenClaim := { program := "ytdlmgijbejkgaaa", sum := "ce00caaea4fa6b121f52526a781e312f9c2c35f351ecb41e3b1a682e7c8a3985", func := "metronome/metronomelaw02.ArenaSteps", spec := "arenaSteps", unfollowed := true, recurses := true, apart := false }
def ArenaStepsSaid : Prop := arenaStepsRow.holds Try.pinned (OpenSpec.ofChange arenaStepsSpec)

/-- ITS FALSE NEIGHBOUR: 'it returns false'. Refute it at one input. -/
def arenaStepsWrong : ChangeSpec := { name := "arenaSteps", fn := fun _ => fun
  | [d1, d2] => { results := [.lit (.bool false)], args := [d1, d2] }
  | _ => none }
def ArenaStepsWrongFalsely : Prop := arenaStepsRow.holds Try.pinned (OpenSpec.ofChange arenaStepsWrong)

/-- 'metronomelaw02.ArenaNil': WHATEVER THE INPUT: true; the input reads as it did. -/
def arenaNilSpec : ChangeSpec := { name := "arenaNil", fn := fun _ => fun
  | [] => { results := [.lit (.bool true)], args := [] }
  | _ => none }
def arenaNilRow : OpenClaim := { program := "ytdlmgijbejkgaaa", sum := "ce00caaea4fa6b121f52526a781e312f9c2c35f351ecb41e3b1a682e7c8a3985", func := "metronome/metronomelaw02.ArenaNil", spec := "arenaNil", unfollowed := true, recurses := true, apart := false }
def ArenaNilSaid : Prop := arenaNilRow.holds Try.pinned (OpenSpec.ofChange arenaNilSpec)

/-- ITS FALSE NEIGHBOUR: 'it returns false'. Refute it at one input. -/
def arenaNilWrong : ChangeSpec := { name := "arenaNil", fn := fun _ => fun
  | [] => { results := [.lit (.bool false)], args := [] }
  | _ => none }
def ArenaNilWrongFalsely : Prop := arenaNilRow.holds Try.pinned (OpenSpec.ofChange arenaNilWrong)

/- THE SECOND FORM. 'bulk': how many values and letters a reading holds, each counted each time it is reached (what is shared counts as often as it is met; a slice's spare places count too). A statement '..UptoSaid' is the law's where the arguments, and the package variables that the reading takes, are together of bulk at most 1048576: NARROWER than '..Said'. Prove '..Said' where nothing that the law and all that it calls make is longer than what came in: it says more and counts as full. Else prove '..UptoSaid'. A law counts once. -/
mutual
def uptoBulk {H : Type} : DataW H → Nat
  | .lit (.string bytes) => bytes.length + 1
  | .lit _ => 1
  | .nil => 1
  | .ptr d => uptoBulk d + 1
  | .slice elems spare => uptoBulkAll elems + uptoBulkAll spare + 1
  | .agg parts => uptoBulkAll parts + 1
  | .iface _ d => uptoBulk d + 1
  | .map entries => uptoBulkEntries entries + 1
  | .held _ => 1
def uptoBulkAll {H : Type} : List (DataW H) → Nat
  | [] => 0
  | d :: r => uptoBulk d + uptoBulkAll r
def uptoBulkEntries {H : Type} : List (Lit × DataW H) → Nat
  | [] => 0
  | x :: r => uptoBulkEntry x + uptoBulkEntries r
def uptoBulkEntry {H : Type} : Lit × DataW H → Nat
  | (.string bytes, d) => bytes.length + uptoBulk d + 1
  | (_, d) => uptoBulk d + 1
 end
def uptoSmall : (H : Type) → List (DataW H) → Bool := fun _ ds => decide (uptoBulkAll ds ≤ 1048576)
def OpenSpec.upto (s : _root_.Go.ChangeSpec) : _root_.Go.OpenSpec := { _root_.Go.OpenSpec.ofChange s with cond := some uptoSmall }

/-- 'metronomelaw02.ArenaWords', WHERE WHAT IT READS IS OF BULK AT MOST 1048576: true; the input reads as it did. -/
def arenaWordsUptoRow : OpenClaim := { program := "ytdlmgijbejkgaaa", sum := "ce00caaea4fa6b121f52526a781e312f9c2c35f351ecb41e3b1a682e7c8a3985", func := "metronome/metronomelaw02.ArenaWords", spec := "arenaWords", unfollowed := true, recurses := true, apart := false, narrowed := true }
def ArenaWordsUptoSaid : Prop := arenaWordsUptoRow.holds Try.pinned (OpenSpec.upto arenaWordsSpec)

/-- 'metronomelaw02.ArenaSame', WHERE WHAT IT READS IS OF BULK AT MOST 1048576: true; the input reads as it did. -/
def arenaSameUptoRow : OpenClaim := { program := "ytdlmgijbejkgaaa", sum := "ce00caaea4fa6b121f52526a781e312f9c2c35f351ecb41e3b1a682e7c8a3985", func := "metronome/metronomelaw02.ArenaSame", spec := "arenaSame", unfollowed := true, recurses := true, apart := false, narrowed := true }
def ArenaSameUptoSaid : Prop := arenaSameUptoRow.holds Try.pinned (OpenSpec.upto arenaSameSpec)

/-- 'metronomelaw02.ArenaSteps', WHERE WHAT IT READS IS OF BULK AT MOST 1048576: true; the input reads as it did. -/
def arenaStepsUptoRow : OpenClaim := { program := "ytdlmgijbejkgaaa", sum := "ce00caaea4fa6b121f52526a781e312f9c2c35f351ecb41e3b1a682e7c8a3985", func := "metronome/metronomelaw02.ArenaSteps", spec := "arenaSteps", unfollowed := true, recurses := true, apart := false, narrowed := true }
def ArenaStepsUptoSaid : Prop := arenaStepsUptoRow.holds Try.pinned (OpenSpec.upto arenaStepsSpec)

/-- 'metronomelaw02.ArenaNil', WHERE WHAT IT READS IS OF BULK AT MOST 1048576: true; the input reads as it did. -/
def arenaNilUptoRow : OpenClaim := { program := "ytdlmgijbejkgaaa", sum := "ce00caaea4fa6b121f52526a781e312f9c2c35f351ecb41e3b1a682e7c8a3985", func := "metronome/metronomelaw02.ArenaNil", spec := "arenaNil", unfollowed := true, recurses := true, apart := false, narrowed := true }
def ArenaNilUptoSaid : Prop := arenaNilUptoRow.holds Try.pinned (OpenSpec.upto arenaNilSpec)

end Rows
end Go.Proofs.Ytdlmgijbejkgaaa
