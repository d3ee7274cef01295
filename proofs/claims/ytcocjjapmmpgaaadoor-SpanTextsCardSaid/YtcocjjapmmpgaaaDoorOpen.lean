/- Spans as arguments: opened and shut. No condition. -/
import Derived.Test.YtcocjjapmmpgaaaDoorProg
import Derived.WalkKit
import Derived.ProofKit
import Derived.OpenShut
import Derived.ChangeOld
import Derived.ChangeSame
import Derived.Deep.Slices
namespace Go.Proofs.YtcocjjapmmpgaaaDoor
open Go.ChangeShapes Go.WideShapes Go.ChangeAt Go.RowKit Go.Deep
set_option linter.unusedVariables false
set_option linter.all false

theorem cells2 : Tryd.prog.cellsOf 2 = 1 := by kernel_rfl
theorem cells23 : Tryd.prog.cellsOf 23 = 2 := by kernel_rfl
section
variable {H : Type} {enc : TypeId × Value → H} {W : World} {sp : Nat → Bool} {held : Bool}
theorem span_cells {base fuel : Nat} {cs : List Value} {x : DataW H × List MemPlace} (h : DataW.trod enc Tryd.prog W base sp held fuel 23 cs = some x) :
    ∃ s n : Int, cs = [.int .i64 s, .int .i64 n] ∧ x = (.agg [.lit (.int .i64 s), .lit (.int .i64 n)], []) ∧ (Lit.int .i64 s).wf = true ∧ (Lit.int .i64 n).wf = true := by
  obtain ⟨y0, y1, m, rfl, hl, h0, h1⟩ := trod_struct2 Tryd.underlying23 h
  rw [cells23] at hl
  obtain ⟨c0, c1, rfl⟩ : ∃ c0 c1, cs = [c0, c1] := by
    match cs, hl with
    | [c0, c1], _ => exact ⟨c0, c1, rfl⟩
  simp only [cells2] at h0 h1
  obtain ⟨s, e0, rfl, f0⟩ := DataW.trod_int Tryd.underlying2 h0
  obtain ⟨n, e1, rfl, f1⟩ := DataW.trod_int Tryd.underlying2 h1
  simp at e0 e1
  subst e0 e1
  exact ⟨s, n, rfl, by simp, f0, f1⟩
theorem open_span {r : Reach} {base b0 : Nat} {v : Value} {d : DataW H} {p : List MemPlace} (hval : Value.okWide Tryd.prog W r b0 23 v) (h : DataW.Trod enc Tryd.prog W base sp held 23 v d p) :
    ∃ s n : Int, v = .agg #[.int .i64 s, .int .i64 n] ∧ d = .agg [.lit (.int .i64 s), .lit (.int .i64 n)] ∧ p = [] ∧ (Lit.int .i64 s).wf = true ∧ (Lit.int .i64 n).wf = true := by
  obtain ⟨cs, rfl, hc⟩ := okWide_struct Tryd.underlying23 hval
  obtain ⟨fuel, hf⟩ := h
  obtain ⟨s, n, hcs, hx, h0, h1⟩ := span_cells hf
  simp only [Value.cells] at hcs
  simp only [Prod.mk.injEq] at hx
  refine ⟨s, n, ?_, hx.1, hx.2, h0, h1⟩
  rw [show cs = #[.int .i64 s, .int .i64 n] from Array.ext' (by simpa using hcs)]
theorem span_shut {base : Nat} {s n : Int} (h0 : (Lit.int .i64 s).wf = true) (h1 : (Lit.int .i64 n).wf = true) :
    DataW.trod enc Tryd.prog W base sp held 2 23 [.int .i64 s, .int .i64 n] = some (.agg [.lit (.int .i64 s), .lit (.int .i64 n)], []) := by
  have q0 := trod_int_mk (enc := enc) (w := W) (base := base) (spare := sp) (held := held) 0 Tryd.underlying2 h0
  have q1 := trod_int_mk (enc := enc) (w := W) (base := base) (spare := sp) (held := held) 0 Tryd.underlying2 h1
  have := trod_struct2_mk (enc := enc) (w := W) (base := base) (spare := sp) (held := held) (n := 1) (cs := [.int .i64 s, .int .i64 n]) Tryd.underlying23 (by rw [cells23]; rfl) (by simp only [cells2]; exact q0) (by simp only [cells2]; exact q1)
  simpa using this
theorem shut_span {base : Nat} {s n : Int} (h0 : (Lit.int .i64 s).wf = true) (h1 : (Lit.int .i64 n).wf = true) :
    DataW.Trod enc Tryd.prog W base sp held 23 (.agg #[.int .i64 s, .int .i64 n]) (.agg [.lit (.int .i64 s), .lit (.int .i64 n)]) [] := ⟨2, span_shut h0 h1⟩
end
end Go.Proofs.YtcocjjapmmpgaaaDoor
