/- Three spans as an argument: opened and shut. No condition. -/
import Derived.Test.YtcocjjapmmpgaaaDoorOpen
namespace Go.Proofs.YtcocjjapmmpgaaaDoor
open Go.ChangeShapes Go.WideShapes Go.ChangeAt Go.RowKit Go.Deep
set_option linter.unusedVariables false
set_option linter.all false

theorem cells49 : Tryd.prog.cellsOf 49 = 6 := by kernel_rfl
theorem okWide_arr {P : Program} {w : World} {r : Reach} {base : Nat} {t e : TypeId} {n : Nat} {v : Value} (ht : P.underlying t = some (.array n e)) (h : Value.okWide P w r base t v) : ∃ cs, v = .agg cs ∧ cs.size = P.cellsOf t := by
  simp only [Value.okWide, ht] at h
  obtain ⟨cs, h1, h2, _⟩ := h
  exact ⟨cs, h1, h2⟩
section
variable {H : Type} {enc : TypeId × Value → H} {W : World} {sp : Nat → Bool} {held : Bool}
def spanD (s n : Int) : DataW H := .agg [.lit (.int .i64 s), .lit (.int .i64 n)]
theorem open_spans3 {r : Reach} {base b0 : Nat} {v : Value} {d : DataW H} {p : List MemPlace} (hval : Value.okWide Tryd.prog W r b0 49 v) (h : DataW.Trod enc Tryd.prog W base sp held 49 v d p) :
    ∃ s1 s2 s3 s4 s5 s6 : Int, v = .agg #[.int .i64 s1, .int .i64 s2, .int .i64 s3, .int .i64 s4, .int .i64 s5, .int .i64 s6] ∧ d = .agg [spanD s1 s2, spanD s3 s4, spanD s5 s6] ∧ p = [] ∧
      (Lit.int .i64 s1).wf = true ∧ (Lit.int .i64 s2).wf = true ∧ (Lit.int .i64 s3).wf = true ∧ (Lit.int .i64 s4).wf = true ∧ (Lit.int .i64 s5).wf = true ∧ (Lit.int .i64 s6).wf = true := by
  obtain ⟨cs, rfl, hc⟩ := okWide_arr Tryd.underlying49 hval
  obtain ⟨fuel, hf⟩ := h
  obtain ⟨xs, m, _, hx, hl, hxl, hat⟩ := DataW.trod_array Tryd.underlying49 hf
  simp only [Value.cells] at hl hat
  rw [cells49] at hl
  obtain ⟨c0, c1, c2, c3, c4, c5, he⟩ : ∃ c0 c1 c2 c3 c4 c5, cs.toList = [c0, c1, c2, c3, c4, c5] := by
    match cs.toList, hl with
    | [c0, c1, c2, c3, c4, c5], _ => exact ⟨c0, c1, c2, c3, c4, c5, rfl⟩
  have a0 := hat 0 (by omega)
  have a1 := hat 1 (by omega)
  have a2 := hat 2 (by omega)
  rw [he, cells23, List.getElem?_eq_getElem (by omega)] at a0 a1 a2
  obtain ⟨s1, s2, e1, x1, f1, f2⟩ := span_cells a0
  obtain ⟨s3, s4, e2, x2, f3, f4⟩ := span_cells a1
  obtain ⟨s5, s6, e3, x3, f5, f6⟩ := span_cells a2
  simp at e1 e2 e3
  obtain ⟨rfl, rfl⟩ := e1
  obtain ⟨rfl, rfl⟩ := e2
  obtain ⟨rfl, rfl⟩ := e3
  have hxs : xs = [(spanD s1 s2, []), (spanD s3 s4, []), (spanD s5 s6, [])] := by
    apply List.ext_getElem
    · simpa using hxl
    · intro i h1 h2
      simp at h2
      match i, h2 with
      | 0, _ => exact x1
      | 1, _ => exact x2
      | 2, _ => exact x3
  subst hxs
  simp only [Prod.mk.injEq] at hx
  refine ⟨s1, s2, s3, s4, s5, s6, ?_, by simpa using hx.1, by simpa using hx.2, f1, f2, f3, f4, f5, f6⟩
  rw [show cs = #[.int .i64 s1, .int .i64 s2, .int .i64 s3, .int .i64 s4, .int .i64 s5, .int .i64 s6] from Array.ext' (by simpa using he)]
theorem shut_spans3 {base : Nat} {s1 s2 s3 s4 s5 s6 : Int} (f1 : (Lit.int .i64 s1).wf = true) (f2 : (Lit.int .i64 s2).wf = true) (f3 : (Lit.int .i64 s3).wf = true) (f4 : (Lit.int .i64 s4).wf = true) (f5 : (Lit.int .i64 s5).wf = true) (f6 : (Lit.int .i64 s6).wf = true) :
    DataW.Trod enc Tryd.prog W base sp held 49 (.agg #[.int .i64 s1, .int .i64 s2, .int .i64 s3, .int .i64 s4, .int .i64 s5, .int .i64 s6]) (.agg [spanD s1 s2, spanD s3 s4, spanD s5 s6]) [] := by
  have q1 := span_shut (enc := enc) (W := W) (base := base) (sp := sp) (held := held) f1 f2
  have q2 := span_shut (enc := enc) (W := W) (base := base) (sp := sp) (held := held) f3 f4
  have q3 := span_shut (enc := enc) (W := W) (base := base) (sp := sp) (held := held) f5 f6
  refine ⟨3, ?_⟩
  unfold DataW.trod
  rw [Tryd.underlying49]
  simp [Value.cells, cells49, cells23, List.range_succ, q1, q2, q3, spanD]
end
end Go.Proofs.YtcocjjapmmpgaaaDoor
