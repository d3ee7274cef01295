/- Script: the arguments, opened: a stretch by value, a list of events; the laid variables. No condition of its own. -/
import Derived.Test.YteblhklclcjonaaGreatDoorSl1
import Derived.Test.YteblhklclcjonaaGreatDoorSl2
import Derived.Test.YteblhklclcjonaaGreatDoorCd5
import Derived.WalkKit
import Derived.ProofKit
import Derived.OpenShut
import Derived.ChangeOld
import Derived.ChangeSame
import Derived.Deep.Slices
import Derived.Stop.LaidErr
import Derived.Lib.LaidTab
namespace Go.Proofs.YteblhklclcjonaaGreatDoor
open Go.ChangeShapes Go.WideShapes Go.ChangeAt Go.RowKit Go.Deep
set_option linter.unusedVariables false
set_option linter.all false
set_option maxRecDepth 20000

theorem cells1 : Tryz.prog.cellsOf 22 = 1 ∧ Tryz.prog.cellsOf 3 = 1 ∧ Tryz.prog.cellsOf 24 = 2 ∧ Tryz.prog.cellsOf 26 = 3 ∧ Tryz.prog.cellsOf 27 = 1 :=
  ⟨by kernel_rfl, by kernel_rfl, by kernel_rfl, by kernel_rfl, by kernel_rfl⟩
theorem array3s {cs : Array Value} (h : cs.size = 3) : ∃ a b c, cs = #[a, b, c] := by
  rcases cs with ⟨l⟩
  match l, h with
  | [a, b, c], _ => exact ⟨a, b, c, rfl⟩
theorem list2s {cs : List Value} (h : cs.length = 2) : ∃ a b, cs = [a, b] := by
  match cs, h with
  | [a, b], _ => exact ⟨a, b, rfl⟩
section
variable {H : Type} {enc : TypeId × Value → H} {W : World} {sp : Nat → Bool} {held : Bool}
theorem ev_cells {base fuel : Nat} {c0 c1 : Value} {x : DataW H × List MemPlace} (hf : DataW.trod enc Tryz.prog W base sp held fuel 24 [c0, c1] = some x) :
    ∃ k m : Int, c0 = .int .i64 k ∧ c1 = .int .i64 m := by
  obtain ⟨xs, m, _, _, _, hl, hat⟩ := DataW.trod_struct Tryz.underlying24 hf
  have hl : xs.length = 2 := hl
  have a0 := hat 0 _ rfl
  have a1 := hat 1 _ rfl
  rw [List.getElem?_eq_getElem (by omega)] at a0 a1
  change DataW.trod _ _ _ _ _ _ _ 22 [c0] = _ at a0
  change DataW.trod _ _ _ _ _ _ _ 3 [c1] = _ at a1
  obtain ⟨x0, e0, _, w0⟩ := DataW.trod_int Tryz.underlying22 a0
  obtain ⟨x1, e1, _, w1⟩ := DataW.trod_int Tryz.underlying3 a1
  simp at e0 e1
  exact ⟨x0, x1, e0, e1⟩
theorem open_stretch {r : Reach} {base b0 : Nat} {v : Value} {d : DataW H} {p : List MemPlace} (hval : Value.okWide Tryz.prog W r b0 26 v) (h : DataW.Trod enc Tryz.prog W base sp held 26 v d p) :
    ∃ k m n : Int, v = .agg #[.int .i64 k, .int .i64 m, .int .i64 n] := by
  obtain ⟨cs, rfl, hc⟩ := okWide_struct Tryz.underlying26 hval
  rw [cells1.2.2.2.1] at hc
  obtain ⟨c0, c1, c2, rfl⟩ := array3s hc
  obtain ⟨fuel, hf⟩ := h
  obtain ⟨xs, m, _, _, _, hl, hat⟩ := DataW.trod_struct Tryz.underlying26 hf
  have hl : xs.length = 2 := hl
  have a0 := hat 0 _ rfl
  have a1 := hat 1 _ rfl
  rw [List.getElem?_eq_getElem (by omega)] at a0 a1
  change DataW.trod _ _ _ _ _ _ _ 24 [c0, c1] = _ at a0
  change DataW.trod _ _ _ _ _ _ _ 3 [c2] = _ at a1
  obtain ⟨k, m, rfl, rfl⟩ := ev_cells a0
  obtain ⟨x1, e1, _, w1⟩ := DataW.trod_int Tryz.underlying3 a1
  simp at e1
  subst e1
  exact ⟨k, m, x1, rfl⟩
theorem open_evs {r : Reach} {base b0 : Nat} {v : Value} {d : DataW H} {p : List MemPlace} (hval : Value.okWide Tryz.prog W r b0 27 v) (h : DataW.Trod enc Tryz.prog W base sp held 27 v d p) :
    ∃ (A : Option Addr) (n c : Nat) (f : Nat → Ev), v = .slice A n c ∧ EvAt W A n f ∧ EvLt A W.heap.size := by
  obtain ⟨A, n, c, rfl⟩ := okWide_slice Tryz.underlying27 hval
  have hlt : EvLt A W.heap.size := by
    intro a ha
    subst ha
    simp only [Value.okWide, Tryz.underlying27, Cell.okWide, Cell.ok] at hval
    obtain ⟨_, _, _, _, row, cells, hsh, _⟩ := hval
    rcases Nat.lt_or_ge a.block W.heap.size with q | q
    · exact q
    · unfold World.shape? at hsh
      rw [Array.getElem?_eq_none q] at hsh
      cases hsh
  obtain ⟨fuel, hf⟩ := h
  rcases open_slice Tryz.underlying27 hf with ⟨hcs, _⟩ | ⟨a, len, cap, m, q, D, Pl, hcs, hb, hl, hm, hmm, hx, hi⟩
  · simp [Value.cells] at hcs
    obtain ⟨rfl, rfl, rfl⟩ := hcs
    exact ⟨none, 0, 0, fun _ => ⟨0, 0⟩, rfl, fun k hk => by omega, hlt⟩
  · simp [Value.cells] at hcs
    obtain ⟨rfl, rfl, rfl⟩ := hcs
    rw [cells1.2.2.1] at hi
    have hmk : n ≤ m := by rw [hmm]; split <;> omega
    have H1 : ∀ k : Nat, ∃ i : Ev, k < n → W.cell? (a.add (k * 2)) = some (.int .i64 i.kind) ∧ W.cell? ⟨(a.add (k * 2)).block, (a.add (k * 2)).off + 1, none⟩ = some (.int .i64 i.num) := by
      intro k
      by_cases hk : k < n
      · obtain ⟨cs', hc, ht⟩ := hi k (by omega)
        obtain ⟨_, hcl, hat⟩ := World.cells?_some hc
        obtain ⟨c0, c1, rfl⟩ := list2s hcl
        obtain ⟨u, v, rfl, rfl⟩ := ev_cells ht
        exact ⟨⟨u, v⟩, fun _ => ⟨hat 0 (by omega), hat 1 (by omega)⟩⟩
      · exact ⟨⟨0, 0⟩, fun h => absurd h hk⟩
    obtain ⟨f, hf⟩ := Classical.axiomOfChoice H1
    exact ⟨some a, n, c, f, rfl, fun k hk => ⟨a, rfl, hf k hk⟩, hlt⟩
end
theorem gT : Tryz.prog.globalNamed "internal/strconv.uint64pow10" = some 3 := by kernel_rfl
theorem gTType : (Tryz.prog.globals[3]?).map (·.type) = some 180 := by kernel_rfl
theorem star : "*" ++ "errors.errorString" = "*errors.errorString" := by decide
theorem row145 (u : TypeId) (h : Tryz.prog.typeName? 3 u = some "*errors.errorString") : u = 188 :=
  typeName_ptr_named (nm := "errors.errorString") (by rw [star]; kernel_rfl) (by kernel_rfl) (by decide) u (by rw [star]; exact h)
def errRangeL : String × DataW Unit := ("strconv.ErrRange", .iface "*errors.errorString" (.ptr (.agg [.lit (.string [118, 97, 108, 117, 101, 32, 111, 117, 116, 32, 111, 102, 32, 114, 97, 110, 103, 101])])))
def errSyntaxL : String × DataW Unit := ("strconv.ErrSyntax", .iface "*errors.errorString" (.ptr (.agg [.lit (.string [105, 110, 118, 97, 108, 105, 100, 32, 115, 121, 110, 116, 97, 120])])))
theorem len_at (w : World) (h : w.ShapedOpen Tryz.prog) : ∃ m, w.cell? ⟨0, 0, none⟩ = some (.int .i64 m) := by
  obtain ⟨m, hm⟩ := Go.Proofs.cell_of_shapedOpen_int (g := 0) (zero := #[.int .i64 0]) (t := 3) h (of_decide_eq_true (by kernel_rfl)) (by kernel_rfl) rfl (by kernel_rfl) (by kernel_rfl) Tryz.underlying3
  exact ⟨m, hm⟩
theorem laid_env {W : World} {a b : String × DataW Unit} (h : laidMet Tryz.prog [a, b, ("internal/strconv.uint64pow10", Lib.tabData .u64 Lib.pow10Tab), errRangeL, errSyntaxL] W) (hS : W.ShapedOpen Tryz.prog) : Env W ∧ 4 ≤ W.heap.size := by
  have h1 := h.tail.tail
  obtain ⟨a0, s0, hv0, _, _, _⟩ := laid_sentinel (g := 2) h1.tail (by kernel_rfl) (by kernel_rfl) Tryz.underlying77 row145 Tryz.underlying188 Tryz.underlying190 rfl rfl Tryz.underlying9 (by kernel_rfl) (by kernel_rfl)
  obtain ⟨a1, s1, hv1, _, _, _⟩ := laid_sentinel (g := 1) h1.tail.tail (by kernel_rfl) (by kernel_rfl) Tryz.underlying77 row145 Tryz.underlying188 Tryz.underlying190 rfl rfl Tryz.underlying9 (by kernel_rfl) (by kernel_rfl)
  have c3 := World.var?_cell (g := 2) (by kernel_rfl) hv0 0
  have c2 := World.var?_cell (g := 1) (by kernel_rfl) hv1 0
  have c3 : W.cell? ⟨2, 0, none⟩ = some (.iface 188 (.pointer (some a0))) := by simpa using c3
  have c2 : W.cell? ⟨1, 0, none⟩ = some (.iface 188 (.pointer (some a1))) := by simpa using c2
  have ht := Lib.tabIs_of_head gT gTType Tryz.underlying180 Tryz.underlying161 (by kernel_rfl) (by kernel_rfl) h1
  refine ⟨⟨ht, len_at W hS, ⟨_, _, c2⟩, ⟨_, _, c3⟩⟩, ?_⟩
  have hg : Tryz.prog.globalNamed "internal/strconv.uint64pow10" = some 3 := by kernel_rfl
  unfold Lib.TabIs World.var? at ht
  rw [hg] at ht
  simp only [Option.bind_some] at ht
  rcases Nat.lt_or_ge 3 W.heap.size with q | q
  · exact q
  · rw [Array.getElem?_eq_none q] at ht; simp at ht
/-! ## The walk of ScriptLines, joined -/
theorem slines_walk (k m n : Int) (t : ByteArray) (A : Option Addr) (nl c : Nat) (f : Nat → Ev) (w : World) (he : Env w) (hw4 : 4 ≤ w.heap.size) (hE : EvAt w A nl f) (hA : EvLt A w.heap.size) : Calls Tryz.prog 3 #[.agg #[.int .i64 k, .int .i64 m, .int .i64 n], .string t, .slice A nl c] w fun e w' => e = .returned (.bool true) ∧ Only [] w w' := by
  obtain ⟨s, rfl⟩ : ∃ s, t = bs s := ⟨t.data.toList, by cases t; rfl⟩
  by_cases h : 9000 < s.length ∨ 9000 < nl
  · exact slines_over k m n s A nl c w he hw4 h
  · exact slines_main k m n s A nl c f w he hw4 (by omega) (by omega) hE hA
end Go.Proofs.YteblhklclcjonaaGreatDoor
