/- Script: the walks of the law's same, of the document's Stretches. Condition: the lists lie. -/
import Derived.Test.YteblhklclcjonaaGreatDoorSm3
import Derived.Test.YteblhklclcjonaaGreatDoorSe3
import Derived.Deep.RegionHeld3
namespace Go.Proofs.YteblhklclcjonaaGreatDoor
open Go.RowKit Go.Shelf
set_option linter.unusedVariables false
set_option linter.all false
set_option maxRecDepth 20000
attribute [local go_sem ↓] app_hide

theorem neqSt (a b c d e f : Int) (W : World) : (binOp .neq 26 (.agg #[.int .i64 a, .int .i64 b, .int .i64 c]) (.agg #[.int .i64 d, .int .i64 e, .int .i64 f])).run Tryz.prog W = .ok (.bool (!((a == d && b == e) && c == f))) W := by
  by_cases h1 : a = d <;> by_cases h2 : b = e <;> by_cases h3 : c = f <;> simp [go_sem, h1, h2, h3]
theorem StV_get {l : List Str} {k : Nat} {x : Str} (h : l[k]? = some x) : (StV l)[k * 3]? = some (.int .i64 x.ev.kind) ∧ (StV l)[k * 3 + 1]? = some (.int .i64 x.ev.num) ∧ (StV l)[k * 3 + 2]? = some (.int .i64 x.n) := by
  induction l generalizing k with
  | nil => simp at h
  | cons y l ih =>
    have e : StV (y :: l) = .int .i64 y.ev.kind :: .int .i64 y.ev.num :: .int .i64 y.n :: StV l := by simp [StV]
    cases k with
    | zero =>
      simp at h
      subst h
      rw [e]
      exact ⟨rfl, rfl, rfl⟩
    | succ k =>
      simp at h
      have := ih h
      rw [e, show (k + 1) * 3 = k * 3 + 3 by omega]
      simpa using this
theorem Ss.cells {w : World} {B : Nat} {A : Option Addr} {c : Nat} {l : List Str} (h : Ss w B A c l) {k : Nat} {x : Str} (hx : l[k]? = some x) : ∃ g, A = some ⟨g, 0, none⟩ ∧ w.cell? ⟨g, k * 3, none⟩ = some (.int .i64 x.ev.kind) ∧ w.cell? ⟨g, k * 3 + 1, none⟩ = some (.int .i64 x.ev.num) ∧ w.cell? ⟨g, k * 3 + 2, none⟩ = some (.int .i64 x.n) := by
  have hk : k < l.length := by
    rcases Nat.lt_or_ge k l.length with q | q
    · exact q
    · rw [List.getElem?_eq_none q] at hx; cases hx
  obtain ⟨g, rfl, h1, _⟩ := own_cell h (by omega)
  obtain ⟨a, b, d⟩ := StV_get hx
  exact ⟨g, rfl, (h1 _ (by omega)).trans a, (h1 _ (by omega)).trans b, (h1 _ (by omega)).trans d⟩
set_option maxHeartbeats 2000000 in
theorem same_self (l : List Str) (hl : l.length ≤ 2000000) (B B' : Nat) (A A' : Option Addr) (c c' : Nat) (w : World) (h : Ss w B A c l) (h' : Ss w B' A' c' l) : Calls Tryz.prog 15 #[.slice A l.length c, .slice A' l.length c'] w fun e w' => e = .returned (.bool true) ∧ Only [] w w' := by
  have H1 := hide h
  have H2 := hide h'
  clear h h'
  obtain ⟨n, hn⟩ : ∃ n, l.length = n := ⟨_, rfl⟩
  rw [hn] at hl ⊢
  have HN := hide hn
  clear hn
  go_enter Tryz.func15, Tryz.ntmps15
  go_wp2_with fail
  go_loopw [5] (fun v wr => ∃ q : Nat, q ≤ n ∧ v = .int .i64 q ∧ Hid (Only [] w wr)) (fun v _ => n - (intOf v).toNat)
  case atStart => exact ⟨0, by omega, rfl, hide (Only.refl _ _)⟩
  case round =>
    obtain ⟨q, hq, rfl, hO⟩ := hrel
    by_cases hqn : q < n
    · obtain ⟨x, hx⟩ : ∃ x, l[q]? = some x := ⟨_, List.getElem?_eq_getElem (by rw [HN.out]; exact hqn)⟩
      obtain ⟨g, rfl, a0, a1, a2⟩ := (H1.out.only0 hO.out).cells hx
      obtain ⟨g', rfl, b0, b1, b2⟩ := (H2.out.only0 hO.out).cells hx
      obtain ⟨⟨k, m⟩, s⟩ := x
      simp only at a0 a1 a2 b0 b1 b2
      have j0 : (0 : Int) ≤ (q : Int) := by omega
      have j1 : (q : Int) < (n : Int) := by omega
      have NQ := fun V => neqSt k m s k m s V
      simp only [BEq.rfl, Bool.and_self, Bool.not_true] at NQ
      clear hx
      go_wp2_with fail
      go_quiet (fail)
      have hO2 := hide (hO.out.trans0 ((Only.refl [] wr).drewN nq))
      generalize wr.drewN nq = w9 at hO2 ⊢
      clear a0 a1 a2 b0 b1 b2 NQ hO
      go_wp2_with fail
      go_roundw
      case rel => exact ⟨q + 1, by omega, by go_num, hO2⟩
      case measure => simp [intOf]; omega
    · obtain rfl : q = n := by omega
      go_wp2_with fail
      go_ret
      exact ⟨rfl, hO.out⟩
end Go.Proofs.YteblhklclcjonaaGreatDoor
