/- Code: the arguments, opened: an instruction, a state, by value; the laid variables. No condition of its own. -/
import Derived.Test.YtmaljajdmgkakaaGreatDoorCdA
import Derived.Test.YtmaljajdmgkakaaGreatDoorCd5
import Derived.WalkKit
import Derived.ProofKit
import Derived.OpenShut
import Derived.ChangeOld
import Derived.ChangeSame
import Derived.Deep.Slices
import Derived.Stop.LaidErr
import Derived.Lib.LaidTab
namespace Go.Proofs.YtmaljajdmgkakaaGreatDoor
open Go.ChangeShapes Go.WideShapes Go.ChangeAt Go.RowKit Go.Deep
set_option linter.unusedVariables false
set_option linter.all false
set_option maxRecDepth 20000

theorem okWide_arr {P : Program} {w : World} {r : Reach} {base : Nat} {t e : TypeId} {n : Nat} {v : Value} (ht : P.underlying t = some (.array n e)) (h : Value.okWide P w r base t v) : ∃ cs, v = .agg cs ∧ cs.size = P.cellsOf t := by
  simp only [Value.okWide, ht] at h
  obtain ⟨cs, h1, h2, _⟩ := h
  exact ⟨cs, h1, h2⟩
theorem array5 {cs : Array Value} (h : cs.size = 5) : ∃ a b c d e, cs = #[a, b, c, d, e] := by
  rcases cs with ⟨l⟩
  match l, h with
  | [a, b, c, d, e], _ => exact ⟨a, b, c, d, e, rfl⟩
theorem array9 {cs : Array Value} (h : cs.size = 9) : ∃ a b c d e f g i j, cs = #[a, b, c, d, e, f, g, i, j] := by
  rcases cs with ⟨l⟩
  match l, h with
  | [a, b, c, d, e, f, g, i, j], _ => exact ⟨a, b, c, d, e, f, g, i, j, rfl⟩
theorem cells1 : Tryz.prog.cellsOf 23 = 1 ∧ Tryz.prog.cellsOf 3 = 1 ∧ Tryz.prog.cellsOf 2 = 1 ∧ Tryz.prog.cellsOf 96 = 8 ∧ Tryz.prog.cellsOf 25 = 5 ∧ Tryz.prog.cellsOf 98 = 9 :=
  ⟨by kernel_rfl, by kernel_rfl, by kernel_rfl, by kernel_rfl, by kernel_rfl, by kernel_rfl⟩
section
variable {H : Type} {enc : TypeId × Value → H} {W : World} {sp : Nat → Bool} {held : Bool}
def insOk (i : Ins) : Prop := ∀ x ∈ [i.op, i.d, i.a, i.b, i.imm], -9223372036854775808 ≤ x ∧ x ≤ 9223372036854775807
/-- An instruction's five cells. -/
theorem ins_cells {base fuel : Nat} {c0 c1 c2 c3 c4 : Value} {x : DataW H × List MemPlace} (hf : DataW.trod enc Tryz.prog W base sp held fuel 25 [c0, c1, c2, c3, c4] = some x) :
    ∃ i : Ins, [c0, c1, c2, c3, c4] = (insV i).toList ∧ insOk i := by
  obtain ⟨xs, m, _, _, _, hl, hat⟩ := DataW.trod_struct Tryz.underlying25 hf
  have hl : xs.length = 5 := hl
  obtain ⟨k22, k3, k2, _, _, _⟩ := cells1
  have a0 := hat 0 _ rfl
  have a1 := hat 1 _ rfl
  have a2 := hat 2 _ rfl
  have a3 := hat 3 _ rfl
  have a4 := hat 4 _ rfl
  rw [List.getElem?_eq_getElem (by omega)] at a0 a1 a2 a3 a4
  change DataW.trod _ _ _ _ _ _ _ 23 [c0] = _ at a0
  change DataW.trod _ _ _ _ _ _ _ 3 [c1] = _ at a1
  change DataW.trod _ _ _ _ _ _ _ 3 [c2] = _ at a2
  change DataW.trod _ _ _ _ _ _ _ 3 [c3] = _ at a3
  change DataW.trod _ _ _ _ _ _ _ 2 [c4] = _ at a4
  obtain ⟨x0, e0, _, w0⟩ := DataW.trod_int Tryz.underlying23 a0
  obtain ⟨x1, e1, _, w1⟩ := DataW.trod_int Tryz.underlying3 a1
  obtain ⟨x2, e2, _, w2⟩ := DataW.trod_int Tryz.underlying3 a2
  obtain ⟨x3, e3, _, w3⟩ := DataW.trod_int Tryz.underlying3 a3
  obtain ⟨x4, e4, _, w4⟩ := DataW.trod_int Tryz.underlying2 a4
  simp at e0 e1 e2 e3 e4
  subst e0 e1 e2 e3 e4
  refine ⟨⟨x0, x1, x2, x3, x4⟩, rfl, fun y hy => ?_⟩
  simp at hy
  rcases hy with rfl | rfl | rfl | rfl | rfl
  · exact bounds_i64 w0
  · exact bounds_i64 w1
  · exact bounds_i64 w2
  · exact bounds_i64 w3
  · exact bounds_i64 w4
theorem open_ins {r : Reach} {base b0 : Nat} {v : Value} {d : DataW H} {p : List MemPlace} (hval : Value.okWide Tryz.prog W r b0 25 v) (h : DataW.Trod enc Tryz.prog W base sp held 25 v d p) :
    ∃ i : Ins, v = .agg (insV i) ∧ insOk i := by
  obtain ⟨cs, rfl, hc⟩ := okWide_struct Tryz.underlying25 hval
  rw [cells1.2.2.2.2.1] at hc
  obtain ⟨c0, c1, c2, c3, c4, rfl⟩ := array5 hc
  obtain ⟨fuel, hf⟩ := h
  obtain ⟨i, hi, ho⟩ := ins_cells hf
  exact ⟨i, by rw [show insV i = #[c0, c1, c2, c3, c4] from Array.ext' hi.symm], ho⟩
theorem open_state {r : Reach} {base b0 : Nat} {v : Value} {d : DataW H} {p : List MemPlace} (hval : Value.okWide Tryz.prog W r b0 98 v) (h : DataW.Trod enc Tryz.prog W base sp held 98 v d p) :
    ∃ (pc : Int) (R : Nat → Int), v = .agg (stV pc R) := by
  obtain ⟨cs, rfl, hc⟩ := okWide_struct Tryz.underlying98 hval
  obtain ⟨k22, k3, k2, k37, _, k39⟩ := cells1
  rw [k39] at hc
  obtain ⟨c0, c1, c2, c3, c4, c5, c6, c7, c8, rfl⟩ := array9 hc
  obtain ⟨fuel, hf⟩ := h
  obtain ⟨xs, m, _, _, _, hl, hat⟩ := DataW.trod_struct Tryz.underlying98 hf
  have hl : xs.length = 2 := hl
  have a0 := hat 0 _ rfl
  have a1 := hat 1 _ rfl
  rw [List.getElem?_eq_getElem (by omega)] at a0 a1
  change DataW.trod _ _ _ _ _ _ _ 3 [c0] = _ at a0
  change DataW.trod _ _ _ _ _ _ _ 96 [c1, c2, c3, c4, c5, c6, c7, c8] = _ at a1
  obtain ⟨x0, e0, _, w0⟩ := DataW.trod_int Tryz.underlying3 a0
  obtain ⟨ys, m', _, _, _, hl2, hb⟩ := DataW.trod_array Tryz.underlying96 a1
  have b0 := hb 0 (by omega)
  have b1 := hb 1 (by omega)
  have b2 := hb 2 (by omega)
  have b3 := hb 3 (by omega)
  have b4 := hb 4 (by omega)
  have b5 := hb 5 (by omega)
  have b6 := hb 6 (by omega)
  have b7 := hb 7 (by omega)
  rw [List.getElem?_eq_getElem (by omega)] at b0 b1 b2 b3 b4 b5 b6 b7
  change DataW.trod _ _ _ _ _ _ _ 2 [c1] = _ at b0
  change DataW.trod _ _ _ _ _ _ _ 2 [c2] = _ at b1
  change DataW.trod _ _ _ _ _ _ _ 2 [c3] = _ at b2
  change DataW.trod _ _ _ _ _ _ _ 2 [c4] = _ at b3
  change DataW.trod _ _ _ _ _ _ _ 2 [c5] = _ at b4
  change DataW.trod _ _ _ _ _ _ _ 2 [c6] = _ at b5
  change DataW.trod _ _ _ _ _ _ _ 2 [c7] = _ at b6
  change DataW.trod _ _ _ _ _ _ _ 2 [c8] = _ at b7
  obtain ⟨z0, f0, _, _⟩ := DataW.trod_int Tryz.underlying2 b0
  obtain ⟨z1, f1, _, _⟩ := DataW.trod_int Tryz.underlying2 b1
  obtain ⟨z2, f2, _, _⟩ := DataW.trod_int Tryz.underlying2 b2
  obtain ⟨z3, f3, _, _⟩ := DataW.trod_int Tryz.underlying2 b3
  obtain ⟨z4, f4, _, _⟩ := DataW.trod_int Tryz.underlying2 b4
  obtain ⟨z5, f5, _, _⟩ := DataW.trod_int Tryz.underlying2 b5
  obtain ⟨z6, f6, _, _⟩ := DataW.trod_int Tryz.underlying2 b6
  obtain ⟨z7, f7, _, _⟩ := DataW.trod_int Tryz.underlying2 b7
  simp [Value.cells] at e0 f0 f1 f2 f3 f4 f5 f6 f7
  subst e0 f0 f1 f2 f3 f4 f5 f6 f7
  exact ⟨x0, fun j => match j with | 0 => z0 | 1 => z1 | 2 => z2 | 3 => z3 | 4 => z4 | 5 => z5 | 6 => z6 | _ => z7, rfl⟩
end
theorem gT : Tryz.prog.globalNamed "internal/strconv.uint64pow10" = some 1 := by kernel_rfl
theorem gTType : (Tryz.prog.globals[1]?).map (·.type) = some 159 := by kernel_rfl
theorem star : "*" ++ "errors.errorString" = "*errors.errorString" := by decide
theorem row145 (u : TypeId) (h : Tryz.prog.typeName? 3 u = some "*errors.errorString") : u = 172 :=
  typeName_ptr_named (nm := "errors.errorString") (by rw [star]; kernel_rfl) (by kernel_rfl) (by decide) u (by rw [star]; exact h)
def errRangeL : String × DataW Unit := ("strconv.ErrRange", .iface "*errors.errorString" (.ptr (.agg [.lit (.string [118, 97, 108, 117, 101, 32, 111, 117, 116, 32, 111, 102, 32, 114, 97, 110, 103, 101])])))
def errSyntaxL : String × DataW Unit := ("strconv.ErrSyntax", .iface "*errors.errorString" (.ptr (.agg [.lit (.string [105, 110, 118, 97, 108, 105, 100, 32, 115, 121, 110, 116, 97, 120])])))
theorem laid_env {W : World} {a b : String × DataW Unit} (h : laidMet Tryz.prog [a, b, ("internal/strconv.uint64pow10", Lib.tabData .u64 Lib.pow10Tab), errRangeL, errSyntaxL] W) (hS : W.ShapedOpen Tryz.prog) : Env W ∧ 4 ≤ W.heap.size := by
  have h1 := h.tail.tail
  obtain ⟨a0, s0, hv0, _, _, _⟩ := laid_sentinel (g := 3) h1.tail (by kernel_rfl) (by kernel_rfl) Tryz.underlying59 row145 Tryz.underlying172 Tryz.underlying174 rfl rfl Tryz.underlying9 (by kernel_rfl) (by kernel_rfl)
  obtain ⟨a1, s1, hv1, _, _, _⟩ := laid_sentinel (g := 2) h1.tail.tail (by kernel_rfl) (by kernel_rfl) Tryz.underlying59 row145 Tryz.underlying172 Tryz.underlying174 rfl rfl Tryz.underlying9 (by kernel_rfl) (by kernel_rfl)
  have c3 := World.var?_cell (g := 3) (by kernel_rfl) hv0 0
  have c2 := World.var?_cell (g := 2) (by kernel_rfl) hv1 0
  have c3 : W.cell? ⟨3, 0, none⟩ = some (.iface 172 (.pointer (some a0))) := by simpa using c3
  have c2 : W.cell? ⟨2, 0, none⟩ = some (.iface 172 (.pointer (some a1))) := by simpa using c2
  refine ⟨⟨Lib.tabIs_of_head gT gTType Tryz.underlying159 Tryz.underlying104 (by kernel_rfl) (by kernel_rfl) h1, Tryz.laysM145.s1_3 W hS, ⟨_, _, c2⟩, ⟨_, _, c3⟩⟩, ?_⟩
  exact block_lt_of_cell c3
end Go.Proofs.YtmaljajdmgkakaaGreatDoor
