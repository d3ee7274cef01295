/- Code: the arguments, opened: a program, a job. No condition of its own. -/
import Derived.Test.YtmaljajdmgkakaaGreatDoorOpen
import Derived.Test.YtmaljajdmgkakaaGreatDoorCdQ
import Derived.SliceStrings
namespace Go.Proofs.YtmaljajdmgkakaaGreatDoor
open Go.ChangeShapes Go.WideShapes Go.ChangeAt Go.RowKit Go.Deep
set_option linter.unusedVariables false
set_option linter.all false
set_option maxRecDepth 20000

theorem array8 {cs : Array Value} (h : cs.size = 8) : ∃ a b c d e f g i, cs = #[a, b, c, d, e, f, g, i] := by
  rcases cs with ⟨l⟩
  match l, h with
  | [a, b, c, d, e, f, g, i], _ => exact ⟨a, b, c, d, e, f, g, i, rfl⟩
theorem list5 {cs : List Value} (h : cs.length = 5) : ∃ a b c d e, cs = [a, b, c, d, e] := by
  match cs, h with
  | [a, b, c, d, e], _ => exact ⟨a, b, c, d, e, rfl⟩
theorem cells2 : Tryz.prog.cellsOf 22 = 1 ∧ Tryz.prog.cellsOf 9 = 1 ∧ Tryz.prog.cellsOf 40 = 8 ∧ Tryz.prog.cellsOf 37 = 1 ∧ Tryz.prog.cellsOf 38 = 1 :=
  ⟨by kernel_rfl, by kernel_rfl, by kernel_rfl, by kernel_rfl, by kernel_rfl⟩
section
variable {H : Type} {enc : TypeId × Value → H} {W : World} {sp : Nat → Bool} {held : Bool}
/-- A program's cells. -/
theorem prog_cells {base fuel : Nat} {cs : List Value} {x : DataW H × List MemPlace} (hf : DataW.trod enc Tryz.prog W base sp held fuel 22 cs = some x) :
    ∃ (A : Option Addr) (n c : Nat) (f : Nat → Ins), cs = [.slice A n c] ∧ n ≤ maxLen ∧ InsAt W A n f ∧ ∀ k, k < n → insOk (f k) := by
  rcases open_slice Tryz.underlying22 hf with ⟨hcs, _⟩ | ⟨a, len, cap, m, n, D, Pl, hcs, hb, hl, hm, hmm, hx, hi⟩
  · exact ⟨none, 0, 0, fun _ => ⟨0, 0, 0, 0, 0⟩, hcs, Nat.zero_le _, fun k hk => by omega, fun k hk => by omega⟩
  · rw [cells1.2.2.2.2.1] at hi
    have hmk : len ≤ m := by rw [hmm]; split <;> omega
    have H1 : ∀ k : Nat, ∃ i : Ins, k < len → insOk i ∧ W.cell? (a.add (k * 5)) = some (.int .i64 i.op) ∧ W.cell? ⟨(a.add (k * 5)).block, (a.add (k * 5)).off + 1, none⟩ = some (.int .i64 i.d) ∧ W.cell? ⟨(a.add (k * 5)).block, (a.add (k * 5)).off + 2, none⟩ = some (.int .i64 i.a) ∧ W.cell? ⟨(a.add (k * 5)).block, (a.add (k * 5)).off + 3, none⟩ = some (.int .i64 i.b) ∧ W.cell? ⟨(a.add (k * 5)).block, (a.add (k * 5)).off + 4, none⟩ = some (.int .i64 i.imm) := by
      intro k
      by_cases hk : k < len
      · obtain ⟨cs', hc, ht⟩ := hi k (by omega)
        obtain ⟨_, hcl, hat⟩ := World.cells?_some hc
        obtain ⟨c0, c1, c2, c3, c4, rfl⟩ := list5 hcl
        obtain ⟨i, hv, ho⟩ := ins_cells ht
        have e : [c0, c1, c2, c3, c4] = [.int .i64 i.op, .int .i64 i.d, .int .i64 i.a, .int .i64 i.b, .int .i64 i.imm] := hv
        simp only [List.cons.injEq, and_true] at e
        obtain ⟨rfl, rfl, rfl, rfl, rfl⟩ := e
        exact ⟨i, fun _ => ⟨ho, hat 0 (by omega), hat 1 (by omega), hat 2 (by omega), hat 3 (by omega), hat 4 (by omega)⟩⟩
      · exact ⟨⟨0, 0, 0, 0, 0⟩, fun h => absurd h hk⟩
    obtain ⟨f, hf⟩ := Classical.axiomOfChoice H1
    exact ⟨some a, len, cap, f, hcs, by omega, fun k hk => ⟨a, rfl, (hf k hk).2⟩, fun k hk => (hf k hk).1⟩
theorem progs_cells {base fuel : Nat} {cs : List Value} {x : DataW H × List MemPlace} (hf : DataW.trod enc Tryz.prog W base sp held fuel 37 cs = some x) :
    ∃ (A : Option Addr) (n c : Nat) (P : Nat → Pg), cs = [.slice A n c] ∧ n ≤ maxLen ∧ PgsAt W A n P := by
  rcases open_slice Tryz.underlying37 hf with ⟨hcs, _⟩ | ⟨a, len, cap, m, n, D, Pl, hcs, hb, hl, hm, hmm, hx, hi⟩
  · exact ⟨none, 0, 0, fun _ => ⟨none, 0, 0, fun _ => ⟨0, 0, 0, 0, 0⟩⟩, hcs, Nat.zero_le _, fun k hk => by omega⟩
  · rw [cells2.1] at hi
    have hmk : len ≤ m := by rw [hmm]; split <;> omega
    have H1 : ∀ k : Nat, ∃ p : Pg, k < len → W.cell? (a.add k) = some (.slice p.A p.n p.c) ∧ p.n ≤ maxLen ∧ InsAt W p.A p.n p.f := by
      intro k
      by_cases hk : k < len
      · obtain ⟨cs', hc, ht⟩ := hi k (by omega)
        obtain ⟨_, hcl, hat⟩ := World.cells?_some hc
        obtain ⟨A, n', c', f, rfl, h1, h2, _⟩ := prog_cells ht
        have h0 := hat 0 (by omega)
        rw [Nat.mul_one] at h0
        exact ⟨⟨A, n', c', f⟩, fun _ => ⟨h0, h1, h2⟩⟩
      · exact ⟨⟨none, 0, 0, fun _ => ⟨0, 0, 0, 0, 0⟩⟩, fun h => absurd h hk⟩
    obtain ⟨P, hP⟩ := Classical.axiomOfChoice H1
    exact ⟨some a, len, cap, P, hcs, by omega, fun k hk => ⟨a, rfl, hP k hk⟩⟩
theorem texts_cells {base fuel : Nat} {cs : List Value} {x : DataW H × List MemPlace} (hf : DataW.trod enc Tryz.prog W base sp held fuel 38 cs = some x) :
    ∃ (A : Option Addr) (n c : Nat) (T : Nat → ByteArray), cs = [.slice A n c] ∧ n ≤ maxLen ∧ TxsAt W A n T := by
  rcases open_strings Tryz.underlying38 Tryz.underlying9 cells2.2.1 hf with ⟨hcs, _⟩ | ⟨a, len, cap, ss, hcs, hb, hl, hm, hmm, hx, hi, _⟩
  · exact ⟨none, 0, 0, fun _ => .empty, hcs, Nat.zero_le _, fun k hk => by omega⟩
  · have hmk : len ≤ ss.length := by rw [hmm]; split <;> omega
    exact ⟨some a, len, cap, fun k => ss.getD k ByteArray.empty, hcs, by omega, fun k hk => ⟨a, rfl, hi k (by omega)⟩⟩
theorem open_prog {r : Reach} {base b0 : Nat} {v : Value} {d : DataW H} {p : List MemPlace} (hval : Value.okWide Tryz.prog W r b0 22 v) (h : DataW.Trod enc Tryz.prog W base sp held 22 v d p) :
    ∃ (A : Option Addr) (n c : Nat) (f : Nat → Ins), v = .slice A n c ∧ n ≤ maxLen ∧ InsAt W A n f ∧ ∀ k, k < n → insOk (f k) := by
  obtain ⟨A, n, c, rfl⟩ := okWide_slice Tryz.underlying22 hval
  obtain ⟨fuel, hf⟩ := h
  obtain ⟨A', n', c', f, h1, h2⟩ := prog_cells hf
  simp [Value.cells] at h1
  obtain ⟨rfl, rfl, rfl⟩ := h1
  exact ⟨_, _, _, f, rfl, h2⟩
theorem open_job {r : Reach} {base b0 : Nat} {v : Value} {d : DataW H} {p : List MemPlace} (hval : Value.okWide Tryz.prog W r b0 40 v) (h : DataW.Trod enc Tryz.prog W base sp held 40 v d p) :
    ∃ J : Jb, v = .agg (jobV J) ∧ JbAt W J := by
  obtain ⟨cs, rfl, hc⟩ := okWide_struct Tryz.underlying40 hval
  rw [cells2.2.2.1] at hc
  obtain ⟨c0, c1, c2, c3, c4, c5, c6, c7, rfl⟩ := array8 hc
  obtain ⟨fuel, hf⟩ := h
  obtain ⟨xs, m, _, _, _, hl, hat⟩ := DataW.trod_struct Tryz.underlying40 hf
  have hl : xs.length = 8 := hl
  have a0 := hat 0 _ rfl
  have a1 := hat 1 _ rfl
  have a2 := hat 2 _ rfl
  have a3 := hat 3 _ rfl
  have a4 := hat 4 _ rfl
  have a5 := hat 5 _ rfl
  have a6 := hat 6 _ rfl
  have a7 := hat 7 _ rfl
  rw [List.getElem?_eq_getElem (by omega)] at a0 a1 a2 a3 a4 a5 a6 a7
  change DataW.trod _ _ _ _ _ _ _ 3 [c0] = _ at a0
  change DataW.trod _ _ _ _ _ _ _ 3 [c1] = _ at a1
  change DataW.trod _ _ _ _ _ _ _ 3 [c2] = _ at a2
  change DataW.trod _ _ _ _ _ _ _ 3 [c3] = _ at a3
  change DataW.trod _ _ _ _ _ _ _ 3 [c4] = _ at a4
  change DataW.trod _ _ _ _ _ _ _ 3 [c5] = _ at a5
  change DataW.trod _ _ _ _ _ _ _ 37 [c6] = _ at a6
  change DataW.trod _ _ _ _ _ _ _ 38 [c7] = _ at a7
  obtain ⟨x0, e0, _, _⟩ := DataW.trod_int Tryz.underlying3 a0
  obtain ⟨x1, e1, _, _⟩ := DataW.trod_int Tryz.underlying3 a1
  obtain ⟨x2, e2, _, _⟩ := DataW.trod_int Tryz.underlying3 a2
  obtain ⟨x3, e3, _, _⟩ := DataW.trod_int Tryz.underlying3 a3
  obtain ⟨x4, e4, _, _⟩ := DataW.trod_int Tryz.underlying3 a4
  obtain ⟨x5, e5, _, _⟩ := DataW.trod_int Tryz.underlying3 a5
  obtain ⟨pA, pn, pc, P, e6, h6, h6'⟩ := progs_cells a6
  obtain ⟨tA, tn, tc, T, e7, h7, h7'⟩ := texts_cells a7
  simp [Value.cells] at e0 e1 e2 e3 e4 e5 e6 e7
  subst e0 e1 e2 e3 e4 e5 e6 e7
  exact ⟨⟨x0, x1, x2, x3, x4, x5, pA, pn, pc, P, tA, tn, tc, T⟩, rfl, h6', h7', h6, h7⟩
end
end Go.Proofs.YtmaljajdmgkakaaGreatDoor
