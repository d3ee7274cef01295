/- Code: the map of does. No condition. -/
import Derived.Test.YtmaljajdmgkakaaGreatDoorCdA
import Derived.Test.YtmaljajdmgkakaaGreatDoorMaps
namespace Go.Proofs.YtmaljajdmgkakaaGreatDoor
open Go.RowKit
open Go.Maps (Keyed)
set_option linter.unusedVariables false
set_option linter.all false
set_option maxRecDepth 20000

theorem inOk_any (x : Int) (w : World) : Calls Tryz.prog 82 #[.int .i64 x] w fun e w' => e = .returned (.bool (decide (0 ≤ x) && decide (x ≤ 7))) ∧ w' = w := by
  go_enter Tryz.func82, Tryz.ntmps82
  go_wp2_with fail
  all_goals go_ret
  all_goals (refine ⟨?_, rfl⟩; first | (simp [*]; done) | (simp [*]; omega) | rfl)
theorem keyed22 : Keyed Tryz.prog 23 := Maps.int_keyed Tryz.underlying23
theorem wf64 (k : Int) (h0 : -9223372036854775808 ≤ k) (h1 : k ≤ 9223372036854775807) : (Lit.int .i64 k).wf = true := by
  have e0 : IntKind.i64.min = -9223372036854775808 := by decide
  have e1 : IntKind.i64.max = 9223372036854775807 := by decide
  show (decide (IntKind.i64.min ≤ k) && decide (k ≤ IntKind.i64.max)) = true
  rw [e0, e1, decide_eq_true h0, decide_eq_true h1]
  rfl
theorem key22 (k : Int) (hw : (Lit.int .i64 k).wf = true) : ∃ l, keyOf Tryz.prog 23 (.int .i64 k) = some l := by
  unfold keyOf
  unfold mapKey
  simp [Tryz.underlying23, hw]
/-- What does answers: of each op that is no call its closure. -/
def fnV (k : Nat) : Value := .func (.func (98 + k)) #[] #[]
noncomputable def updV (f : Value → Option Value) (k v : Value) : Value → Option Value := fun x => @ite _ (x = k) (Classical.propDecidable _) (some v) (f x)
theorem updV_same (f : Value → Option Value) (k v : Value) : updV f k v k = some v := by unfold updV; exact if_pos rfl
theorem updV_other (f : Value → Option Value) (k v x : Value) (h : x ≠ k) : updV f k v x = f x := by unfold updV; exact if_neg h
noncomputable def dF : Nat → Value → Option Value
  | 0 => fun _ => none
  | k + 1 => updV (dF k) (.int .i64 ((k + 1 : Nat) : Int)) (fnV (k + 1))
theorem dF_some : ∀ n k : Nat, 1 ≤ k → k ≤ n → dF n (.int .i64 (k : Int)) = some (fnV k)
  | 0, k, h1, h2 => by omega
  | n + 1, k, h1, h2 => by
    unfold dF
    by_cases e : k = n + 1
    · subst e; exact updV_same ..
    · rw [updV_other _ _ _ _ (by intro h; injection h with _ h; omega)]
      exact dF_some n k h1 (by omega)
theorem dF_none : ∀ (n : Nat) (o : Int), (o < 1 ∨ (n : Int) < o) → dF n (.int .i64 o) = none
  | 0, o, h => rfl
  | n + 1, o, h => by
    unfold dF
    rw [updV_other _ _ _ _ (by intro h'; injection h' with _ h'; omega)]
    exact dF_none n o (by omega)
theorem put22 {w : World} {b n : Nat} {f : Value → Option Value} (h : Mp Tryz.prog 23 w b f n) (k : Int) (v : Value) (hw : (Lit.int .i64 k).wf = true) : ∃ w' n', (Instr.mapUpdate 132 (.map (some b)) (.int .i64 k) v).run Tryz.prog w = .ok () w' ∧ Mp Tryz.prog 23 w' b (updV f (.int .i64 k) v) n' ∧ Only [b] w w' := by
  obtain ⟨l, hl⟩ := key22 k hw
  obtain ⟨w', h1, h2, h3⟩ := h.put keyed22 Tryz.underlying132 hl v (updV f (.int .i64 k) v) (updV_same ..) (fun k hk => updV_other _ _ _ k hk)
  exact ⟨w', _, h1, h2, h3⟩
set_option maxHeartbeats 2000000 in
theorem does_any (w : World) : Calls Tryz.prog 81 #[] w fun e w' => e = .returned (.map (some w.heap.size)) ∧ (∃ n, Mp Tryz.prog 23 w' w.heap.size (dF 6) n) ∧ Only [] w w' := by
  have hmm := @run_makeMap Tryz.prog
  have hM := Mp.made Tryz.prog 23 w
  have o0 := (Only.refl [] w).alloc (.map #[] 0)
  obtain ⟨w1, n1, e1, m1, o1⟩ := put22 hM 1 (fnV 1) (by decide)
  obtain ⟨w2, n2, e2, m2, o2⟩ := put22 m1 2 (fnV 2) (by decide)
  obtain ⟨w3, n3, e3, m3, o3⟩ := put22 m2 3 (fnV 3) (by decide)
  obtain ⟨w4, n4, e4, m4, o4⟩ := put22 m3 4 (fnV 4) (by decide)
  obtain ⟨w5, n5, e5, m5, o5⟩ := put22 m4 5 (fnV 5) (by decide)
  obtain ⟨w6, n6, e6, m6, o6⟩ := put22 m5 6 (fnV 6) (by decide)
  have oo : Only [w.heap.size] (w.alloc (.map #[] 0)) w6 := ((((o1.trans' o2).trans' o3).trans' o4).trans' o5).trans' o6
  have OO := hide (o0.trans oo (fun x hx => .inr (by simp at hx; omega)))
  have MM := hide (show Mp Tryz.prog 23 w6 w.heap.size (dF 6) n6 from m6)
  clear o0 o1 o2 o3 o4 o5 o6 oo hM m1 m2 m3 m4 m5 m6
  unfold fnV at e1 e2 e3 e4 e5 e6
  simp only [Nat.reduceAdd] at e1 e2 e3 e4 e5 e6
  go_enter Tryz.func81, Tryz.ntmps81
  go_wp2_with fail
  go_ret
  exact ⟨rfl, ⟨_, MM.out⟩, OO.out⟩
end Go.Proofs.YtmaljajdmgkakaaGreatDoor
