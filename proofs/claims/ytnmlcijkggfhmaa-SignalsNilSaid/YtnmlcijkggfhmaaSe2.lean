/- Signals, the program's: queues compared: the walks of slices.Equal, Same's closure, maps.EqualFunc. Condition: the queues lie. -/
import Derived.Test.YtnmlcijkggfhmaaSe1
import Derived.Test.YtnmlcijkggfhmaaMapR
namespace Go.Proofs.Ytnmlcijkggfhmaa
open Go.RowKit
open Go.Maps (Keyed)
set_option linter.unusedVariables false
set_option linter.all false
set_option maxRecDepth 20000

theorem I64.cell {w : World} {Bs : List Nat} {A : Option Addr} {l : List Int} (h : I64 w Bs A l) {i : Nat} {x : Int} (hx : l[i]? = some x) : ∃ g o, A = some ⟨g, o, none⟩ ∧ w.cell? ⟨g, o + i, none⟩ = some (.int .i64 x) := by
  obtain ⟨g, o, cs, e, _, hb, hc⟩ := h (by have := (List.getElem?_eq_some_iff.1 hx).1; omega)
  exact ⟨g, o, e, (hb.cell _).trans (hc i x hx)⟩
set_option maxHeartbeats 2000000 in
theorem equal_ints (w : World) (Bs Cs : List Nat) (A A' : Option Addr) (X Y : List Int) (c c' : Nat) (hA : I64 w Bs A X) (hB : I64 w Cs A' Y) (hX : X.length ≤ 1000) : Calls Try.prog 40 #[.slice A X.length c, .slice A' Y.length c'] w fun e w' => e = .returned (.bool (decide (X = Y))) ∧ Only [] w w' := by
  have HA := hide hA
  have HB := hide hB
  clear hA hB
  by_cases hl : X.length = Y.length
  · have dl : ((X.length : Int) != (Y.length : Int)) = false := by rw [hl]; simp
    have dl2 : (X.length != Y.length) = false := by rw [hl]; simp
    have le1 : X.length ≤ Y.length := by omega
    by_cases hxy : X = Y
    · have EQ := hide hxy
      have HT := hide (decide_eq_true hxy)
      clear hxy hl
      go_enter Try.func40, Try.ntmps40
      go_wp2_with fail
      go_loopw [13] (fun vi wr => ∃ i : Nat, i ≤ X.length ∧ vi = .int .i64 i ∧ Hid (Only [] w wr)) (fun vi _ => X.length - (intOf vi).toNat)
      case atStart => exact ⟨0, Nat.zero_le _, rfl, hide (Only.refl _ _)⟩
      case round =>
        obtain ⟨i, hi, rfl, hO⟩ := hrel
        by_cases hli : i < X.length
        · obtain ⟨x, hx⟩ : ∃ x, X[i]? = some x := ⟨_, List.getElem?_eq_getElem hli⟩
          obtain ⟨g1, o1, rfl, a0⟩ := (HA.out.only hO.out (by simp)).cell hx
          obtain ⟨g2, o2, rfl, b0⟩ := (HB.out.only hO.out (by simp)).cell (EQ.out ▸ hx)
          have j2 : (0 : Int) ≤ (i : Int) := by omega
          have j3 : (i : Int) < (X.length : Int) := by omega
          have j4 : (i : Int) < (Y.length : Int) := by omega
          clear hx
          go_wp2_with fail
          go_quiet (fail)
          go_wp2_with fail
          go_roundw
          case rel => exact ⟨i + 1, by omega, by go_num, hide (hO.out.drewN _)⟩
          case measure => simp [intOf]; omega
        · have d8 : decide ((i : Int) < (X.length : Int)) = false := decide_eq_false (by omega)
          have d9 : decide (i < X.length) = false := decide_eq_false (by omega)
          go_wp2_with fail
          go_ret
          exact ⟨by rw [HT.out]; rfl, hO.out⟩
    · obtain ⟨q, x, y, hqx, hqy, hne, htk⟩ := list_differ hl hxy
      have HQX := hide hqx
      have HQY := hide hqy
      have HNE := hide hne
      have HTK := hide htk
      have hq := (List.getElem?_eq_some_iff.1 hqx).1
      have HF := hide (decide_eq_false hxy)
      clear hxy hl hqx hqy hne htk
      go_enter Try.func40, Try.ntmps40
      go_wp2_with fail
      go_loopw [13] (fun vi wr => ∃ i : Nat, i ≤ q ∧ vi = .int .i64 i ∧ Hid (Only [] w wr)) (fun vi _ => X.length - (intOf vi).toNat)
      case atStart => exact ⟨0, Nat.zero_le _, rfl, hide (Only.refl _ _)⟩
      case round =>
        obtain ⟨i, hi, rfl, hO⟩ := hrel
        have j2 : (0 : Int) ≤ (i : Int) := by omega
        have j3 : (i : Int) < (X.length : Int) := by omega
        have j4 : (i : Int) < (Y.length : Int) := by omega
        by_cases hli : i < q
        · obtain ⟨x', hx'⟩ : ∃ x', X[i]? = some x' := ⟨_, List.getElem?_eq_getElem (by omega)⟩
          have hy' : Y[i]? = some x' := by
            have h1 : (X.take q)[i]? = some x' := by rw [List.getElem?_take, if_pos hli]; exact hx'
            rw [HTK.out, List.getElem?_take, if_pos hli] at h1
            exact h1
          obtain ⟨g1, o1, rfl, a0⟩ := (HA.out.only hO.out (by simp)).cell hx'
          obtain ⟨g2, o2, rfl, b0⟩ := (HB.out.only hO.out (by simp)).cell hy'
          clear hx' hy'
          go_wp2_with fail
          go_quiet (fail)
          go_wp2_with fail
          go_roundw
          case rel => exact ⟨i + 1, by omega, by go_num, hide (hO.out.drewN _)⟩
          case measure => simp [intOf]; omega
        · obtain rfl : i = q := by omega
          obtain ⟨g1, o1, rfl, a0⟩ := (HA.out.only hO.out (by simp)).cell HQX.out
          obtain ⟨g2, o2, rfl, b0⟩ := (HB.out.only hO.out (by simp)).cell HQY.out
          have dn : (x != y) = true := by simpa using HNE.out
          go_wp2_with fail
          go_quiet (fail)
          go_wp2_with fail
          go_ret
          exact ⟨by rw [HF.out]; rfl, hO.out.drewN _⟩
  · have dl : ((X.length : Int) != (Y.length : Int)) = true := by simp; omega
    have dl2 : (X.length != Y.length) = true := by simpa using hl
    have HF := hide (decide_eq_false (show ¬ X = Y from fun h => hl (by rw [h])))
    clear hl
    go_enter Try.func40, Try.ntmps40
    go_wp2_with fail
    go_ret
    exact ⟨by rw [HF.out]; rfl, Only.refl _ _⟩
theorem closure_any (w : World) (Bs Cs : List Nat) (A A' : Option Addr) (X Y : List Int) (c c' : Nat) (hA : I64 w Bs A X) (hB : I64 w Cs A' Y) (hX : X.length ≤ 1000) : Calls Try.prog 39 #[.slice A X.length c, .slice A' Y.length c'] w fun e w' => e = .returned (.bool (decide (X = Y))) ∧ Only [] w w' := by
  have EQ := hide (equal_ints w Bs Cs A A' X Y c c' hA hB hX)
  obtain ⟨b, hb⟩ : ∃ b, decide (X = Y) = b := ⟨_, rfl⟩
  rw [hb] at EQ ⊢
  clear hA hB hb
  go_enter Try.func39, Try.ntmps39
  go_wp2_with (go_at_call 40; refine EQ.out.mono ?_; rintro e w2 ⟨rfl, o2⟩)
  go_ret
  exact ⟨rfl, o2⟩
end Go.Proofs.Ytnmlcijkggfhmaa
