/- Turns: the walk of the law's same. Condition: the slices' cells lie. -/
import Derived.Test.YtnndengdlokmbaaTu11
import Derived.BigQuiet
namespace Go.Proofs.Ytnndengdlokmbaa
open Go.RowKit Go.Shelf
set_option linter.unusedVariables false
set_option linter.all false
set_option maxRecDepth 20000

set_option maxHeartbeats 1000000 in
theorem ints_any (A B : Option Addr) (c d : Nat) (l r : List Nat) (w : World) (hA : Nsrc w A l) (hB : Nsrc w B r) (hl : l.length ≤ 1000) (hr : r.length ≤ 1000) :
    Calls Try.prog 18 #[.slice A l.length c, .slice B r.length d] w fun e w' => e = .returned (.bool (decide (l = r))) ∧ ∃ k, w' = w.drewN k := by
  by_cases hlen : l.length = r.length
  · obtain ⟨n, hn⟩ : ∃ n, l.length = n := ⟨_, rfl⟩
    have hm : r.length = n := by omega
    have HN := hide hn
    have HM := hide hm
    have SA := hide hA
    have SB := hide hB
    rw [hn, hm]
    rw [hn] at hl
    clear hlen hr hn hm hA hB
    obtain ⟨b, hb⟩ : ∃ b, decide (l = r) = b := ⟨_, rfl⟩
    rw [hb]
    have HB := hide hb
    clear hb
    go_enter Try.func18, Try.ntmps18
    go_wp2_with fail
    go_loopw [5] (fun i wr => ∃ k : Nat, k ≤ n ∧ i = .int .i64 k ∧ (∀ j, j < k → l[j]? = r[j]?) ∧ ∃ m, w.drewN m = wr) (fun i _ => n - (intOf i).toNat)
    case atStart => exact ⟨0, Nat.zero_le _, rfl, fun j hj => by omega, 0, rfl⟩
    case round =>
      obtain ⟨k, hk, rfl, hq, m, rfl⟩ := hrel
      have HQ := hide hq
      clear hq
      by_cases hlt : k < n
      · obtain ⟨u, hu⟩ : ∃ u, l[k]? = some u := ⟨_, List.getElem?_eq_getElem (by rw [HN.out]; exact hlt)⟩
        obtain ⟨v, hv⟩ : ∃ v, r[k]? = some v := ⟨_, List.getElem?_eq_getElem (by rw [HM.out]; exact hlt)⟩
        obtain ⟨g1, e1, c1⟩ := SA.out (by rw [HN.out]; omega)
        obtain ⟨g2, e2, c2⟩ := SB.out (by rw [HM.out]; omega)
        have k1 := c1 k u hu
        have k2 := c2 k v hv
        have HU := hide hu
        have HV := hide hv
        subst e1 e2
        clear c1 c2 hu hv
        have j1 : (k : Int) < (n : Int) := by omega
        have j0 : (0 : Int) ≤ (k : Int) := by omega
        by_cases huv : u = v
        · have gv : ((u : Int) != (v : Int)) = false := by simp [huv]
          have gv1 : ((u : Int) == (v : Int)) = true := by simp [huv]
          have HE := hide huv
          clear huv
          go_wp2_with fail
          go_quiet (fail)
          go_wp2_with fail
          go_roundw
          case rel => exact ⟨k + 1, by omega, by go_num, fun j hj => by
            rcases Nat.lt_or_ge j k with h | h
            · exact HQ.out j h
            · obtain rfl : j = k := by omega
              rw [HU.out, HV.out, HE.out], _, rfl⟩
          case measure => simp [intOf]; omega
        · have gv : ((u : Int) != (v : Int)) = true := by simp; omega
          have gv1 : ((u : Int) == (v : Int)) = false := by simp; omega
          have hb' : false = b := by
            rw [← HB.out]
            refine (decide_eq_false fun h => huv ?_).symm
            have := HU.out
            rw [h, HV.out] at this
            exact (Option.some.inj this).symm
          subst hb'
          go_wp2_with fail
          go_quiet (fail)
          go_wp2_with fail
          go_ret
          exact ⟨rfl, _, (World.drewN_drewN ..)⟩
      · obtain rfl : k = n := by omega
        have hb' : true = b := by
          rw [← HB.out]
          refine (decide_eq_true ?_).symm
          refine List.ext_getElem? (fun j => ?_)
          rcases Nat.lt_or_ge j k with h | h
          · exact HQ.out j h
          · rw [List.getElem?_eq_none (by rw [HN.out]; exact h), List.getElem?_eq_none (by rw [HM.out]; exact h)]
        subst hb'
        go_wp2_with fail
        go_ret
        exact ⟨rfl, _, rfl⟩
  · have hne : ((l.length : Int) != (r.length : Int)) = true := by simp; omega
    have hne1 : ((l.length : Int) == (r.length : Int)) = false := by simp; omega
    have hd : decide (l = r) = false := decide_eq_false fun h => hlen (by rw [h])
    rw [hd]
    clear hd
    go_enter Try.func18, Try.ntmps18
    go_wp2_with fail
    go_ret
    exact ⟨rfl, 0, rfl⟩
end Go.Proofs.Ytnndengdlokmbaa
