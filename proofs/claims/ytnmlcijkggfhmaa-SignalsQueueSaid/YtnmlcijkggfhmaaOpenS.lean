/- Signals: the arguments, opened: a script of steps. No condition. -/
import Derived.Test.YtnmlcijkggfhmaaSf6
import Derived.Deep.Slices
import Derived.Deep.Fields
import Derived.ChangeSame
import Derived.ProofKit
import Derived.OpenShut
import Derived.ChangeOld
namespace Go.Proofs.Ytnmlcijkggfhmaa
open Go.ChangeShapes Go.WideShapes Go.ChangeAt Go.RowKit Go.Deep
set_option linter.unusedVariables false
set_option linter.all false

section
variable {H : Type} {enc : TypeId × Value → H} {P : Program} {w : World} {base : Nat} {spare : Nat → Bool} {held : Bool}
theorem open_slice_fields {t e : TypeId} {fs : Array Field} {fuel : Nat} {cs : List Value} {x : DataW H × List MemPlace} (ht : P.underlying t = some (.slice e)) (he : P.underlying e = some (.struct fs))
    (hone : oneCellFields P fs = true) (hC : P.cellsOf e = fs.size) (h : DataW.trod enc P w base spare held fuel t cs = some x) :
    (cs = [.slice none 0 0] ∧ x = (.nil, [])) ∨
    ∃ (a : Addr) (len cap m : Nat) (D : Nat → DataW H) (Pl : Nat → List MemPlace), cs = [.slice (some a) len cap] ∧ base ≤ a.block ∧ len ≤ cap ∧ cap ≤ maxLen ∧ m = (if spare a.block then cap else len) ∧
      x = (.slice ((List.range len).map D) ((List.range (m - len)).map fun j => D (len + j)), MemPlace.row a (m * fs.size) ++ (List.range m).flatMap Pl) ∧
      ∀ i, i < m → ∃ (ys : List (DataW H × List MemPlace)) (n : Nat), D i = .agg (ys.map (·.1)) ∧ Pl i = ys.flatMap (·.2) ∧ ys.length = fs.size ∧
        ∀ (j : Nat) (f : Field), fs[j]? = some f → ∃ (v : Value) (y : DataW H × List MemPlace), w.cell? (a.add (i * fs.size + j)) = some v ∧ ys[j]? = some y ∧ DataW.trod enc P w base spare held n f.type [v] = some y := by
  rcases open_slice ht h with h0 | ⟨a, len, cap, m, n, D, Pl, hcs, hb, hl, hm, hmm, hx, hi⟩
  · exact .inl h0
  · refine .inr ⟨a, len, cap, m, D, Pl, hcs, hb, hl, hm, hmm, by rw [hC] at hx; exact hx, fun i him => ?_⟩
    obtain ⟨cs', hc, ht'⟩ := hi i him
    rw [hC] at hc
    obtain ⟨ys, n', hn', hy, hlen, hyl, hf⟩ := DataW.trod_struct he ht'
    obtain ⟨_, hcl, hat⟩ := World.cells?_some hc
    simp only [Prod.mk.injEq] at hy
    refine ⟨ys, n', hy.1, hy.2, hyl, fun j f hj => ?_⟩
    obtain ⟨ho, hk⟩ := hone_of hone j f hj
    have hjl : j < fs.size := (Array.getElem?_eq_some_iff.1 hj).1
    have hcell := hat j hjl
    have hv : cs'[j]? = some (cs'[j]'(by omega)) := List.getElem?_eq_getElem (by omega)
    have h1 := hf j f hj
    rw [ho, hk] at h1
    have hone' : (cs'.drop j).take 1 = [cs'[j]'(by omega)] := by
      rw [List.drop_eq_getElem_cons (by omega)]
      rfl
    rw [hone'] at h1
    have hys : ys[j]? = some (ys[j]'(by omega)) := List.getElem?_eq_getElem (by omega)
    refine ⟨_, _, ?_, hys, h1.trans hys⟩
    rw [← Go.Deep.add_add, hcell, hv]
end

theorem open_steps {H : Type} {enc : TypeId × Value → H} {W : World} {base : Nat} {v : Value} {d : DataW H} {p : List MemPlace}
    (hval : Value.okWide Try.prog W .any base 22 v) (h : DataW.Trod enc Try.prog W 0 (fun _ => true) true 22 v d p) : ∃ (A : Option Addr) (n c : Nat), v = .slice A n c ∧ n ≤ maxLen ∧ StepsAt W A n := by
  obtain ⟨fuel, hf⟩ := h
  obtain ⟨A, n, c, rfl⟩ := okWide_slice Try.underlying22 hval
  rcases open_slice_fields Try.underlying22 Try.underlying33 (by kernel_rfl) (by kernel_rfl) hf with ⟨hcs, _⟩ | ⟨a, len, cap, m, D, Pl, hcs, _, hl, hm, hmm, _, hfs⟩
  · simp [Value.cells] at hcs
    obtain ⟨rfl, rfl, rfl⟩ := hcs
    exact ⟨none, 0, 0, rfl, Nat.zero_le _, fun k hk => by omega⟩
  · simp [Value.cells] at hcs
    obtain ⟨rfl, rfl, rfl⟩ := hcs
    refine ⟨_, _, _, rfl, by omega, fun k hk => ?_⟩
    have hmk : n ≤ m := by rw [hmm]; split <;> omega
    obtain ⟨ys, nn, _, _, _, hf2⟩ := hfs k (by omega)
    obtain ⟨u0, y0, hc0, _, ht0⟩ := hf2 0 _ rfl
    obtain ⟨u1, y1, hc1, _, ht1⟩ := hf2 1 _ rfl
    obtain ⟨u2, y2, hc2, _, ht2⟩ := hf2 2 _ rfl
    obtain ⟨u3, y3, hc3, _, ht3⟩ := hf2 3 _ rfl
    obtain ⟨u4, y4, hc4, _, ht4⟩ := hf2 4 _ rfl
    obtain ⟨x0, e0, _⟩ := DataW.trod_int Try.underlying3 ht0
    obtain ⟨x1, e1, _⟩ := DataW.trod_int Try.underlying3 ht1
    obtain ⟨x2, e2, _⟩ := DataW.trod_int Try.underlying3 ht2
    obtain ⟨x3, e3, _⟩ := DataW.trod_int Try.underlying2 ht3
    obtain ⟨x4, e4, w4⟩ := DataW.trod_int Try.underlying31 ht4
    simp at e0 e1 e2 e3 e4
    subst e0 e1 e2 e3 e4
    have hb := bounds_u32 w4.2
    obtain ⟨s, rfl⟩ : ∃ s : Nat, x4 = s := ⟨x4.toNat, by omega⟩
    refine ⟨_, x0, x1, x2, x3, s, rfl, by omega, hc0, ?_, ?_, ?_, ?_⟩
    · have hu := hc1
      rw [← Go.Deep.add_add] at hu
      exact hu
    · have hu := hc2
      rw [← Go.Deep.add_add] at hu
      exact hu
    · have hu := hc3
      rw [← Go.Deep.add_add] at hu
      exact hu
    · have hu := hc4
      rw [← Go.Deep.add_add] at hu
      exact hu
end Go.Proofs.Ytnmlcijkggfhmaa
