/- Turns: the arguments, opened: a slice of ints. No condition. -/
import Derived.Test.YtnndengdlokmbaaTu17
import Derived.Deep.Slices
import Derived.Deep.Fields
import Derived.ChangeSame
import Derived.ProofKit
import Derived.OpenShut
import Derived.ChangeOld
namespace Go.Proofs.Ytnndengdlokmbaa
open Go.ChangeShapes Go.WideShapes Go.ChangeAt Go.RowKit Go.Deep
set_option linter.unusedVariables false
set_option linter.all false

theorem open_ints {H : Type} {enc : TypeId × Value → H} {W : World} {base : Nat} {v : Value} {d : DataW H} {p : List MemPlace}
    (hval : Value.okWide Try.prog W .any base 32 v) (h : DataW.Trod enc Try.prog W 0 (fun _ => true) true 32 v d p) : ∃ (A : Option Addr) (n c : Nat) (f : Nat → Int), v = .slice A n c ∧ n ≤ maxLen ∧ IntsAt W A n f := by
  obtain ⟨fuel, hf⟩ := h
  obtain ⟨A, n, c, rfl⟩ := okWide_slice Try.underlying32 hval
  rcases open_slice1 Try.underlying32 (by kernel_rfl) hf with ⟨hcs, _⟩ | ⟨a, len, cap, m, nn, V, D, Pl, hcs, _, hl, hm, hmm, _, hx⟩
  · simp [Value.cells] at hcs
    obtain ⟨rfl, rfl, rfl⟩ := hcs
    exact ⟨none, 0, 0, fun _ => 0, rfl, Nat.zero_le _, fun k hk => by omega⟩
  · simp [Value.cells] at hcs
    obtain ⟨rfl, rfl, rfl⟩ := hcs
    obtain ⟨f, hf⟩ := choose_lt (n := m) (α := Int) (p := fun i u => W.cell? (a.add i) = some (.int .i64 u)) (fun i hi => by
      obtain ⟨h1, h2⟩ := hx i hi
      obtain ⟨u, e, _⟩ := DataW.trod_int Try.underlying3 h2
      simp at e
      exact ⟨u, by rw [h1, e]⟩)
    exact ⟨_, _, _, f, rfl, by omega, fun k hk => ⟨a, rfl, hf k (by rw [hmm]; split <;> omega)⟩⟩
end Go.Proofs.Ytnndengdlokmbaa
