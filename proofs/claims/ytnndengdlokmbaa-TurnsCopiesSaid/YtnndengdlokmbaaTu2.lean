/- Turns: the walks of New and goes. Condition: the turns lie. -/
import Derived.Test.YtnndengdlokmbaaTu1
namespace Go.Proofs.Ytnndengdlokmbaa
open Go.RowKit
set_option linter.unusedVariables false
set_option linter.all false
set_option maxRecDepth 20000

/-- The cells of turns that nobody made. -/
def Z60 : Array Value := #[.pointer none, .int .i64 0] ++ ((List.replicate 16 [Value.bool false, .bool false, .int .i64 0, .int .i64 0]).flatten).toArray
theorem info60 : (Try.prog.info? 60).map (fun i => (i.zero, i.size)) = some (some (.agg Z60), 66) := by kernel_rfl
theorem zero60 (W : World) : (zeroValue 60).run Try.prog W = .ok (.agg Z60) W := (zero_of_info info60).1 W
theorem lt16 {P : Nat → Prop} (h : P 0 ∧ P 1 ∧ P 2 ∧ P 3 ∧ P 4 ∧ P 5 ∧ P 6 ∧ P 7 ∧ P 8 ∧ P 9 ∧ P 10 ∧ P 11 ∧ P 12 ∧ P 13 ∧ P 14 ∧ P 15) : ∀ t, t < 16 → P t := by
  obtain ⟨h0, h1, h2, h3, h4, h5, h6, h7, h8, h9, h10, h11, h12, h13, h14, h15⟩ := h
  intro t ht
  match t, ht with
  | 0, _ => exact h0
  | 1, _ => exact h1
  | 2, _ => exact h2
  | 3, _ => exact h3
  | 4, _ => exact h4
  | 5, _ => exact h5
  | 6, _ => exact h6
  | 7, _ => exact h7
  | 8, _ => exact h8
  | 9, _ => exact h9
  | 10, _ => exact h10
  | 11, _ => exact h11
  | 12, _ => exact h12
  | 13, _ => exact h13
  | 14, _ => exact h14
  | 15, _ => exact h15
  | n + 16, h => exact absurd h (by omega)
theorem TC_new (g : Nat) (Q : Int) : TC ((Z60.setIfInBounds 0 (.pointer (some ⟨g, 0, none⟩))).setIfInBounds 1 (.int .i64 Q)) g Q (fun _ => []) (fun _ => false) (fun _ => 0) := by
  have hz : Z60.size = 66 := by decide +kernel
  have hp : ∀ t, prioQ (fun _ => []) t = 0 := fun t => prioQ_zero (by simp)
  refine ⟨by simp [hz], (set_ne (by omega)).trans (set_eq (by omega)), set_eq (by simp [hz]), fun t ht => ?_, fun t ht => ?_, fun t ht => ?_, fun t ht => ?_⟩ <;> refine (set_ne (by omega)).trans ((set_ne (by omega)).trans ?_)
  · rw [hp, show decide (0 ≠ 0) = false from rfl]
    exact lt16 (P := fun t => Z60[2 + t * 4]? = some (.bool false)) ⟨rfl, rfl, rfl, rfl, rfl, rfl, rfl, rfl, rfl, rfl, rfl, rfl, rfl, rfl, rfl, rfl⟩ t ht
  · exact lt16 (P := fun t => Z60[2 + t * 4 + 1]? = some (.bool false)) ⟨rfl, rfl, rfl, rfl, rfl, rfl, rfl, rfl, rfl, rfl, rfl, rfl, rfl, rfl, rfl, rfl⟩ t ht
  · rw [hp]
    exact lt16 (P := fun t => Z60[2 + t * 4 + 2]? = some (.int .i64 0)) ⟨rfl, rfl, rfl, rfl, rfl, rfl, rfl, rfl, rfl, rfl, rfl, rfl, rfl, rfl, rfl, rfl⟩ t ht
  · exact lt16 (P := fun t => Z60[2 + t * 4 + 3]? = some (.int .i64 0)) ⟨rfl, rfl, rfl, rfl, rfl, rfl, rfl, rfl, rfl, rfl, rfl, rfl, rfl, rfl, rfl, rfl⟩ t ht
def newE (v : Value) (c : Int) (e : Ending) : Prop := e = .returned (.tuple #[v, .int .i64 c])
theorem tnew_bad (Q : Int) (hQ : ¬ (1 ≤ Q ∧ Q ≤ 100)) (w : World) : Calls Try.prog 10 #[.int .i64 Q] w fun e w' => newE (.pointer none) 2 e ∧ w' = w := by
  by_cases c1 : Q < 1
  · have d1 : decide (Q < 1) = true := decide_eq_true c1
    clear hQ
    go_enter Try.func10, Try.ntmps10
    go_wp2_with fail
    exact bodyPost_ret (v := .tuple #[.pointer none, .int .i64 2]) (by simp [results, Try.results10, go_sem]) rfl ⟨rfl, rfl⟩
  · have d1 : decide (Q < 1) = false := decide_eq_false c1
    have d2 : decide (100 < Q) = true := decide_eq_true (by omega)
    clear hQ
    go_enter Try.func10, Try.ntmps10
    go_wp2_with fail
    exact bodyPost_ret (v := .tuple #[.pointer none, .int .i64 2]) (by simp [results, Try.results10, go_sem]) rfl ⟨rfl, rfl⟩
theorem tnew_good (Q : Int) (h1 : 1 ≤ Q) (h2 : Q ≤ 100) (w : World) : Calls Try.prog 10 #[.int .i64 Q] w fun e w' => ∃ x g, newE (ptr x) 0 e ∧ TT w' x g Q (fun _ => []) (fun _ => false) (fun _ => 0) 0 ∧ w.heap.size ≤ x ∧ w.heap.size ≤ g ∧ Only [] w w' := by
  have d1 : decide (Q < 1) = false := decide_eq_false (by omega)
  have d2 : decide (100 < Q) = false := decide_eq_false (by omega)
  have hZ := zero60
  go_enter Try.func10, Try.ntmps10
  go_wp2_with (go_at_call 33; refine (new_any _).mono ?_; rintro e w2 ⟨rfl, R2, o2⟩; unfold ptr)
  have hs := o2.size
  exact bodyPost_ret (v := .tuple #[.pointer (some ⟨w2.heap.size, 0, none⟩), .int .i64 0]) (by simp [results, Try.results10, go_sem]) rfl ⟨w2.heap.size, w.heap.size, rfl, ⟨⟨_, Blk.new w2 60 _, TC_new _ _⟩, R2.only ((Only.refl [] w2).alloc _) (by simp)⟩, hs, Nat.le_refl _, o2.alloc _⟩
theorem RL.facts {w : World} {g : Nat} {q : Nat → List Nat} {st : Int} (h : RL w g q st) : q 0 = [] ∧ (∀ p, (q p).length ≤ 16) ∧ (∀ p, (q p).Nodup) ∧ (∀ p t, t ∈ q p → 1 ≤ p ∧ p ≤ 31) := by
  obtain ⟨s, prio, bits, _, hR⟩ := h
  refine ⟨List.eq_nil_iff_forall_not_mem.2 (fun t ht => by have := hR.out 0 t ht; omega), fun p => nodup_lt 16 _ (hR.nd p) (hR.lt p), hR.nd, hR.out⟩
/-- Where a thread stands when another one, or it, has gone elsewhere. -/
theorem moveQ_mem {w : World} {g : Nat} {q : Nat → List Nat} {st : Int} (h : RL w g q st) {t p : Nat} (ht : t < 16) (h1 : 1 ≤ p) (h2 : p ≤ 31) (hd : Bool) (u j : Nat) :
    u ∈ moveQ q t p hd j ↔ (u = t ∧ j = p) ∨ (u ≠ t ∧ u ∈ q j) := by
  have hnd : ∀ j, (q j).Nodup := h.facts.2.2.1
  have hrem : ∀ u j, u ∈ remQ q t j ↔ u ≠ t ∧ u ∈ q j := by
    intro u j
    unfold remQ remC
    by_cases hz : prioQ q t = 0
    · have hno : t ∉ q j := fun hm => by have := h.prio_mem hm; have := (h.mem_lt hm).2; omega
      rw [if_neg (by simp; omega)]
      constructor
      · intro hm; exact ⟨fun e => hno (e ▸ hm), hm⟩
      · exact fun hm => hm.2
    · rw [if_pos (by simp [hz]; omega), Int.toNat_natCast]
      by_cases e : j = prioQ q t
      · subst e
        rw [setq_same, (hnd _).mem_erase_iff]
      · rw [setq_other _ _ e]
        constructor
        · intro hm
          refine ⟨fun e' => e ?_, hm⟩
          subst e'
          exact (h.prio_mem hm).symm
        · exact fun hm => hm.2
  have hno : ∀ j, t ∉ remQ q t j := fun j hm => ((hrem t j).1 hm).1 rfl
  have hc : putC (remQ q t) p t = 0 := by
    unfold putC argQ
    rw [if_neg (by simp; omega), if_neg (by rw [Int.toNat_natCast, prioQ_zero hno]; simp)]
  unfold moveQ putHQ putTQ
  rw [if_pos hc, if_pos hc, Int.toNat_natCast, Int.toNat_natCast]
  by_cases e : j = p
  · subst e
    cases hd <;> simp [setq_same, hrem] <;> by_cases hut : u = t <;> simp [hut]
  · cases hd <;> simp [setq_other _ _ e, hrem, e]
end Go.Proofs.Ytnndengdlokmbaa
