/- Signals: the arguments, opened: two sizes by value. No condition. -/
import Derived.Test.YtnmlcijkggfhmaaOpen
import Derived.Test.YtnmlcijkggfhmaaProg
namespace Go.Proofs.Ytnmlcijkggfhmaa
open Go.ChangeShapes Go.WideShapes Go.ChangeAt Go.RowKit
set_option linter.unusedVariables false
set_option linter.all false
section
variable {H : Type} {enc : TypeId × Value → H} {w : World} {base : Nat} {spare : Nat → Bool} {held : Bool}
theorem array4 {cs : Array Value} (h : cs.size = 4) : ∃ a b c d, cs = #[a, b, c, d] := by
  rcases cs with ⟨l⟩
  match l, h with
  | [a, b, c, d], _ => exact ⟨a, b, c, d, rfl⟩
theorem open_arr22 {r : Reach} {b0 : Nat} {v : Value} {d : DataW H} {p : List MemPlace}
    (hv : Value.okWide Try.prog w r b0 49 v) (h : DataW.Trod enc Try.prog w base spare held 49 v d p) : ∃ x0 x1 x2 x3, v = .agg #[.int .i64 x0, .int .i64 x1, .int .i64 x2, .int .i64 x3] := by
  obtain ⟨cs, rfl, hs⟩ := okWide_array Try.underlying49 hv
  rw [show Try.prog.cellsOf 49 = 4 by kernel_rfl] at hs
  obtain ⟨c0, c1, c2, c3, rfl⟩ := array4 hs
  obtain ⟨fuel, hf⟩ := h
  obtain ⟨xs, m, _, _, _, hl, hi⟩ := DataW.trod_array Try.underlying49 hf
  have h0 := hi 0 (by omega)
  have h1 := hi 1 (by omega)
  rw [show Try.prog.cellsOf 42 = 2 by kernel_rfl] at h0 h1
  rw [List.getElem?_eq_getElem (by omega)] at h0 h1
  obtain ⟨ys, m1, _, _, _, hl1, hi1⟩ := DataW.trod_array Try.underlying42 h0
  obtain ⟨zs, m2, _, _, _, hl2, hi2⟩ := DataW.trod_array Try.underlying42 h1
  have a0 := hi1 0 (by omega)
  have a1 := hi1 1 (by omega)
  have b0 := hi2 0 (by omega)
  have b1 := hi2 1 (by omega)
  rw [show Try.prog.cellsOf 3 = 1 by kernel_rfl] at a0 a1 b0 b1
  rw [List.getElem?_eq_getElem (by omega)] at a0 a1 b0 b1
  obtain ⟨x0, e0, _, _⟩ := DataW.trod_int Try.underlying3 a0
  obtain ⟨x1, e1, _, _⟩ := DataW.trod_int Try.underlying3 a1
  obtain ⟨x2, e2, _, _⟩ := DataW.trod_int Try.underlying3 b0
  obtain ⟨x3, e3, _, _⟩ := DataW.trod_int Try.underlying3 b1
  simp [Value.cells] at e0 e1 e2 e3
  subst e0 e1 e2 e3
  exact ⟨x0, x1, x2, x3, rfl⟩
end
end Go.Proofs.Ytnmlcijkggfhmaa
