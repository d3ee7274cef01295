/- Turns: the walk of the law's without. Condition: the slice's cells lie. -/
import Derived.Test.YtnndengdlokmbaaTu18
namespace Go.Proofs.Ytnndengdlokmbaa
open Go.RowKit Go.Shelf
set_option linter.unusedVariables false
set_option linter.all false
set_option maxRecDepth 20000
attribute [local go_sem ↓] app_hide

/-- A list without a thread. -/
def wo (t : Int) (l : List Nat) : List Nat := l.filter fun u => decide ((u : Int) ≠ t)
theorem wo_le (t : Int) (l : List Nat) : (wo t l).length ≤ l.length := List.length_filter_le _ _
theorem wo_yes (t : Int) (l : List Nat) (u : Nat) (h : (u : Int) ≠ t) : wo t (l ++ [u]) = wo t l ++ [u] := by simp [wo, h]
theorem wo_no (t : Int) (l : List Nat) (u : Nat) (h : (u : Int) = t) : wo t (l ++ [u]) = wo t l := by simp [wo, h]
set_option maxHeartbeats 2000000 in
theorem without_any (A : Option Addr) (c : Nat) (l : List Nat) (t : Int) (w : World) (hA : Nsrc w A l) (hl : l.length ≤ 1000) :
    Calls Try.prog 19 #[.slice A l.length c, .int .i64 t] w fun e w' => (∃ A' c', e = .returned (.slice A' (wo t l).length c') ∧ w'.ownsRow w.heap.size 3 1 (.slice A' (wo t l).length c') (wo t l).length (NV (wo t l))) ∧ Only [] w w' := by
  obtain ⟨n, hn⟩ : ∃ n, l.length = n := ⟨_, rfl⟩
  have HN := hide hn
  have SA := hide hA
  rw [hn] at hl ⊢
  clear hA hn
  go_enter Try.func19, Try.ntmps19
  go_wp2_with fail
  go_loopw [5, 6] (fun vo vi wr => ∃ (i : Nat) (A' : Option Addr) (c' : Nat), i ≤ n ∧ vi = .int .i64 i ∧ vo = .slice A' (wo t (l.take i)).length c' ∧ wr.ownsRow w.heap.size 3 1 (.slice A' (wo t (l.take i)).length c') (wo t (l.take i)).length (NV (wo t (l.take i))) ∧ Only [] w wr) (fun _ vi _ => n - (intOf vi).toNat)
  case atStart => exact ⟨0, none, 0, Nat.zero_le _, rfl, rfl, World.ownsRow_nil .., Only.refl _ _⟩
  case round =>
    obtain ⟨i, A', c', hi, rfl, rfl, hown, ho⟩ := hrel
    by_cases hlt : i < n
    · obtain ⟨u, hu⟩ : ∃ u, l[i]? = some u := ⟨_, List.getElem?_eq_getElem (by rw [HN.out]; exact hlt)⟩
      obtain ⟨g1, e1, c1⟩ := SA.out (by rw [HN.out]; omega)
      have k1 := ho.keep0 (c1 i u hu)
      have htk : l.take (i + 1) = l.take i ++ [u] := by rw [List.take_add_one, hu]; rfl
      have HT := hide htk
      subst e1
      have j1 : (i : Int) < (n : Int) := by omega
      have j0 : (0 : Int) ≤ (i : Int) := by omega
      have hle : (wo t (l.take i)).length ≤ 1000 := by have := wo_le t (l.take i); simp at this; omega
      clear c1 hu htk
      by_cases hx : (u : Int) = t
      · have gx : ((u : Int) != t) = false := by simp [hx]
        have HX := hide hx
        have HW := hide hown
        have HO := hide ho
        clear hx hown ho
        go_wp2_with fail
        go_roundw
        case rel => exact ⟨i + 1, A', c', by omega, by go_num, by rw [HT.out, wo_no _ _ _ HX.out], by rw [HT.out, wo_no _ _ _ HX.out]; exact HW.out, HO.out⟩
        case measure => simp [intOf]; omega
      · have gx : ((u : Int) != t) = true := by simp [hx]
        have HX := hide hx
        have hge := own_ge hown
        obtain ⟨g', cap', w2, hrun, hown2, o2, hgg⟩ := app_one wr w.heap.size A' c' (wo t (l.take i)) u hown (by omega) ho.size
        have HW := hide hown2
        have HO := hide (only_in ho o2 (fun k hk => (hge k hk).1))
        clear hown hown2 o2 hgg hge hx ho
        go_wp2_with fail
        go_roundw
        case rel => exact ⟨i + 1, some ⟨g', 0, none⟩, cap', by omega, by go_num, by rw [HT.out, wo_yes _ _ _ HX.out]; simp, by rw [HT.out, wo_yes _ _ _ HX.out]; exact HW.out, HO.out⟩
        case measure => simp [intOf]; omega
    · obtain rfl : i = n := by omega
      have ht : l.take i = l := List.take_of_length_le (by rw [HN.out]; omega)
      rw [ht] at hown
      rw [ht]
      have HW := hide hown
      have HO := hide ho
      clear hown ho ht
      go_wp2_with fail
      go_ret
      exact ⟨⟨A', c', rfl, HW.out⟩, HO.out⟩
end Go.Proofs.Ytnndengdlokmbaa
