/- Ready lists, the document's answer: the walk of List. Condition: the rows lie. -/
import Derived.Test.YtlaeiknkabajkaaRd27
namespace Go.Proofs.Ytlaeiknkabajkaa
open Go.RowKit Go.Shelf
set_option linter.unusedVariables false
set_option linter.all false
set_option maxRecDepth 20000
attribute [local go_sem ↓] app_hide

theorem selQ_out (q : Nat → List Nat) (h0 : q 0 = []) (p : Int) (hp : p < 1 ∨ 31 < p) : selQ p (allQ q) = [] := by
  unfold selQ
  rw [List.map_eq_nil_iff, List.filter_eq_nil_iff]
  intro x hx
  have := (mem_below q 32 x).1 hx
  have hne : x.1 ≠ 0 := fun e => by have h2 := this.2; rw [e, h0] at h2; simp at h2
  have := this.1
  simp
  omega
set_option maxHeartbeats 1000000 in
theorem rlist_any (d : Nat) (q : Nat → List Nat) (p : Int) (h0 : q 0 = []) (hl : ∀ p, (q p).length ≤ 16) (w : World) (h : DQ w d q) : Calls Try.prog 28 #[ptr d, .int .i64 p] w fun e w' => (∃ A c, e = .returned (.slice A (selQ p (allQ q)).length c) ∧ w'.ownsRow w.heap.size 3 1 (.slice A (selQ p (allQ q)).length c) (selQ p (allQ q)).length (NV (selQ p (allQ q)))) ∧ Only [] w w' := by
  by_cases hp : p < 1 ∨ 31 < p
  · rw [selQ_out q h0 p hp]
    have fin : ∀ e w', e = Ending.returned (.slice none 0 0) ∧ w' = w → (∃ A c, e = .returned (.slice A ([] : List Nat).length c) ∧ w'.ownsRow w.heap.size 3 1 (.slice A ([] : List Nat).length c) ([] : List Nat).length (NV [])) ∧ Only [] w w' := by
      rintro e w' ⟨rfl, hw⟩
      obtain rfl := hw.symm
      exact ⟨⟨none, 0, rfl, World.ownsRow_nil ..⟩, Only.refl _ _⟩
    refine Calls.mono ?_ fin
    unfold ptr
    by_cases c1 : p < 1
    · have d1 : decide (p < 1) = true := decide_eq_true c1
      clear hp h h0 hl fin
      go_enter Try.func28, Try.ntmps28
      go_wp2_with fail
      go_ret
      exact ⟨rfl, rfl⟩
    · have d1 : decide (p < 1) = false := decide_eq_false c1
      have d2 : decide (31 < p) = true := decide_eq_true (by omega)
      clear hp h h0 hl fin
      go_enter Try.func28, Try.ntmps28
      go_wp2_with fail
      go_ret
      exact ⟨rfl, rfl⟩
  · obtain ⟨P, rfl⟩ : ∃ m : Nat, p = m := ⟨p.toNat, by omega⟩
    have hs := selQ_all q P (by omega)
    rw [hs]
    obtain ⟨cs, A, c, hb, hz, hr⟩ := h
    obtain ⟨hc, hrow⟩ := hr P (by omega)
    have k1 : w.cell? ⟨d, P, none⟩ = some (.slice (A P) (q P).length (c P)) := (hb.cell P).trans hc
    obtain ⟨A3, c3, w3, e1, r1, o1⟩ := app_src w w.heap.size none 0 [] (A P) (c P) (q P) 0 (q P).length rfl rfl (World.ownsRow_nil ..) hrow.nsrc (by have := hl P; simp; omega) (Nat.le_refl _)
    rw [Nat.zero_add, List.nil_append] at r1
    rw [Nat.zero_add] at e1
    have R1 := hide r1
    have i1 : (0 : Int) ≤ (P : Int) := by omega
    have i2 : (P : Int) < 32 := by omega
    have d1 : decide ((P : Int) < 1) = false := by simp; omega
    have d2 : decide (31 < (P : Int)) = false := by simp; omega
    have O1 := hide (show Only [] w w3 from o1)
    clear hb hz hr hc hrow r1 o1 hp hs h0 hl
    unfold ptr
    go_enter Try.func28, Try.ntmps28
    go_wp2_with fail
    go_ret
    exact ⟨⟨A3, c3, rfl, R1.out⟩, O1.out⟩
end Go.Proofs.Ytlaeiknkabajkaa
