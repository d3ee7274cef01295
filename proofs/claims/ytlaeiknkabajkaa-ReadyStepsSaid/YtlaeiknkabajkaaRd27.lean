/- Ready lists: the walk of ReadySame. Condition: the scripts' cells lie. -/
import Derived.Test.YtlaeiknkabajkaaRd26
namespace Go.Proofs.Ytlaeiknkabajkaa
open Go.RowKit Go.Shelf
set_option linter.unusedVariables false
set_option linter.all false
set_option maxRecDepth 20000

/-- A pair of lists that tell the same. -/
def Pr (W : World) (g d : Nat) (q : Nat → List Nat) (st : Int) : Prop := RL W g q st ∧ DQ W d q
theorem Pr.noRow {W : World} {g d : Nat} {q : Nat → List Nat} {st : Int} (h : Pr W g d q st) : NoRow W [g, d] := fun k hk hl => by
  simp at hk
  rcases hk with rfl | rfl
  · exact h.1.noRow k (by simp) hl
  · exact h.2.noRow k (by simp) hl
theorem Pr.keep {W W' : World} {g d g2 d2 : Nat} {q q2 : Nat → List Nat} {st st2 : Int} (h : Pr W g d q st) (k : Pr W g2 d2 q2 st2) (hg : g ≠ g2) (hd : d ≠ d2) (o : Only [g, d] W W') : Pr W' g2 d2 q2 st2 := by
  have h1 := k.1.ne h.2
  have h2 := h.1.ne k.2
  exact ⟨k.1.only o (by simp; exact ⟨Ne.symm hg, h1⟩), k.2.only o h.noRow (by simp; exact ⟨Ne.symm h2, Ne.symm hd⟩)⟩
theorem Pr.only0 {W W' : World} {g d : Nat} {q : Nat → List Nat} {st : Int} (h : Pr W g d q st) (o : Only [] W W') : Pr W' g d q st := ⟨h.1.only o (by simp), h.2.only o (NoRow.nil _) (by simp)⟩
theorem Pr.lt {W : World} {g d : Nat} {q : Nat → List Nat} {st : Int} (h : Pr W g d q st) : g < W.heap.size := by
  obtain ⟨⟨s, prio, bits, ⟨cs, hb, _⟩, _⟩, _⟩ := h
  exact hb.lt
/-- How the law's loops stand: the pair that turns, the pair that waits. -/
def Two (w : World) (d g2 d2 : Nat) (q2 : Nat → List Nat) (st2 : Int) (n : Nat) (vr vq vk vi : Value) (wr : World) : Prop :=
  ∃ (k g : Nat) (q : Nat → List Nat) (st : Int), vr = .pointer (some ⟨g, 0, none⟩) ∧ vq = .pointer (some ⟨d, 0, none⟩) ∧ vk = .bool true ∧ vi = .int .i64 k ∧ k ≤ n ∧ k ≤ 60 ∧ 0 ≤ st ∧ st ≤ 20 * k ∧ Pr wr g d q st ∧ Pr wr g2 d2 q2 st2 ∧ Only [] w wr ∧ w.heap.size ≤ g ∧ g ≠ g2
theorem Two.step {w wr w' : World} {d g2 d2 n k g g' : Nat} {q q2 q' : Nat → List Nat} {st st2 st' : Int} (hk : k + 1 ≤ n) (hk2 : k + 1 ≤ 60) (h0 : 0 ≤ st) (hst : st ≤ 20 * k) (h1 : Pr wr g d q st) (h2 : Pr wr g2 d2 q2 st2) (hO : Only [] w wr) (hg : w.heap.size ≤ g) (hd : w.heap.size ≤ d) (hne : g ≠ g2) (hdd : d ≠ d2)
    (s1 : st ≤ st') (s2 : st' ≤ st + 20) (hR : RL w' g' q' st') (hD : DQ w' d q') (o : Only [g, d] wr w') (hg' : g' = g ∨ wr.heap.size ≤ g') :
    Two w d g2 d2 q2 st2 n (.pointer (some ⟨g', 0, none⟩)) (.pointer (some ⟨d, 0, none⟩)) (.bool true) (.int .i64 ((k + 1 : Nat) : Int)) w' := by
  refine ⟨k + 1, g', q', st', rfl, rfl, rfl, rfl, hk, hk2, by omega, by push_cast; omega, ⟨hR, hD⟩, h1.keep h2 hne hdd o, hO.trans o (fun x hx => .inr (by simp at hx; rcases hx with rfl | rfl <;> assumption)), ?_, ?_⟩
  · have := hO.size
    rcases hg' with rfl | h
    · exact hg
    · omega
  · have := h2.lt
    rcases hg' with rfl | h
    · exact hne
    · omega
set_option maxHeartbeats 8000000 in
theorem same_walk (A0 A1 : Option Addr) (n0 n1 c0 c1 : Nat) (w : World) (hA0 : StepsAt w A0 n0) (hA1 : StepsAt w A1 n1) (hn0 : n0 ≤ maxLen) (hn1 : n1 ≤ maxLen) : Calls Try.prog 3 #[.slice A0 n0 c0, .slice A1 n1 c1] w fun e w' => e = .returned (.bool true) ∧ Only [] w w' := by
  have HA0 := hide hA0
  have HA1 := hide hA1
  clear hA0 hA1
  have hZ := zero29
  unfold maxLen at hn0 hn1
  go_enter Try.func3, Try.ntmps3
  go_wp2_with (first
    | (go_at_call 6; refine (new_any _).mono ?_; rintro e w1 ⟨rfl, R1, o1⟩; unfold ptr; obtain ⟨gx, hgx⟩ : ∃ gx, w.heap.size = gx := ⟨_, rfl⟩; rw [hgx] at R1 ⊢; have W1 := hide o1; clear o1)
    | (go_at_call 6; refine (new_any _).mono ?_; rintro e w2 ⟨rfl, R2, o2⟩; unfold ptr))
  clear hZ
  obtain ⟨gy, hgy⟩ : ∃ gy, w1.heap.size = gy := ⟨_, rfl⟩
  obtain ⟨dp, hdp⟩ : ∃ dp, w2.heap.size = dp := ⟨_, rfl⟩
  have D1 := (DQ_new w2).only ((Only.refl [] (w2.alloc (.cells Z29 29))).alloc (.cells Z29 29)) (NoRow.nil _) (by simp)
  have D2 := DQ_new (w2.alloc (.cells Z29 29))
  rw [World.size_alloc] at D2
  have oo : Only [] w2 ((w2.alloc (.cells Z29 29)).alloc (.cells Z29 29)) := ((Only.refl [] w2).alloc _).alloc _
  have X1 := (R1.only o2 (by simp)).only oo (by simp)
  have X2 := R2.only oo (by simp)
  have O3 := (W1.out.trans0 o2).trans0 oo
  have hs1 := W1.out.size
  have hs2 := o2.size
  have hlt : gx < gy := by obtain ⟨s, prio, bits, ⟨cs, hb, _⟩, _⟩ := R1; have := hb.lt; omega
  rw [hgy] at X2
  rw [hdp] at D1 D2
  rw [hgy, hdp]
  have P1 : Pr _ gx dp _ 0 := ⟨X1, D1⟩
  have P2 : Pr _ gy (dp + 1) _ 0 := ⟨X2, D2⟩
  have hgxw : w.heap.size ≤ gx := by omega
  have hgyw : w.heap.size ≤ gy := by omega
  have hdpw : w.heap.size ≤ dp := by omega
  have hdqw : w.heap.size ≤ dp + 1 := by omega
  have hgg : gx ≠ gy := by omega
  have hdd : dp ≠ dp + 1 := by omega
  clear D1 D2 oo X1 X2 hs1 hs2 hlt R1 R2 o2 W1 hgy hdp hgx
  obtain ⟨dq, hdq⟩ : ∃ dq, dp + 1 = dq := ⟨_, rfl⟩
  rw [hdq] at P2 hdqw hdd ⊢
  clear hdq
  go_loopw [5, 7, 9, 10] (fun vr vq vk vi wr => Two w dp gy dq (fun _ => []) 0 n0 vr vq vk vi wr) (fun _ _ _ vi _ => n0 - (intOf vi).toNat)
  case atStart => exact ⟨0, gx, _, 0, rfl, rfl, rfl, rfl, Nat.zero_le _, Nat.zero_le _, by decide, by decide, P1, P2, O3, hgxw, hgg⟩
  case round =>
    obtain ⟨k, g, q, st, rfl, rfl, rfl, rfl, hk, hk2, h0, hst, hP, hQ, hO, hgw, hne⟩ := hrel
    have HK := hide hk2
    have H0 := hide h0
    have HS := hide hst
    have HP := hide hP
    have HQ := hide hQ
    have HO := hide hO
    clear hk2 h0 hst hP hQ hO P1 P2 O3
    by_cases hgo : k < n0 ∧ k < 60
    · obtain ⟨a, kd, p, t, rfl, e0, e1, e2⟩ := HA0.out k hgo.1
      have m0 := HO.out.keep0 e0
      have m1 := HO.out.keep0 e1
      have m2 := HO.out.keep0 e2
      have j1 : (k : Int) < (n0 : Int) := by omega
      have j2 : (k : Int) < 60 := by omega
      have j0 : (0 : Int) ≤ (k : Int) := by omega
      have DO := hide (do_any g dp q kd p t st (by have := H0.out; have := HS.out; omega) wr HP.out.1 HP.out.2)
      unfold ptr at DO
      have hk1 := hgo.1
      have hk2 := hgo.2
      clear hgo e0 e1 e2
      go_wp2_with (go_at_call 7; refine DO.out.mono ?_; rintro e w3 ⟨g', st', rfl, s1, s2, R', D', O', hg'⟩; have TT := hide (Two.step (n := n0) (by omega) (by omega) H0.out HS.out HP.out HQ.out HO.out hgw hdpw hne hdd s1 s2 R' D' O' hg'); clear s1 s2)
      go_roundw
      case rel =>
        refine (show Two _ _ _ _ _ _ _ _ _ _ (.int .i64 _) _ from ?_)
        have := TT.out
        push_cast at this
        exact this
      case measure => simp [intOf]; omega
    · have hK60 := HK.out
      rcases (show ((k : Int) < (n0 : Int) ∧ ¬ ((k : Int) < 60)) ∨ ¬ ((k : Int) < (n0 : Int)) from by omega) with ⟨hB1, hB2⟩ | hB1
      all_goals (
        clear hgo
        go_wp2_with fail
        go_loopw [6, 8, 9, 11] (fun vr vq vk vi wr => Two w dq g dp q st n1 vr vq vk vi wr) (fun _ _ _ vi _ => n1 - (intOf vi).toNat)
        case atStart => exact ⟨0, gy, _, 0, rfl, rfl, rfl, rfl, Nat.zero_le _, Nat.zero_le _, by decide, by decide, HQ.out, HP.out, HO.out, hgyw, Ne.symm hne⟩
        case round =>
          clear HP HQ HO
          obtain ⟨k2, g2, q2, st2, rfl, rfl, rfl, rfl, hk, hk2, h0, hst, hP, hQ, hO, hgw2, hne2⟩ := hrel
          have HK2 := hide hk2
          have H02 := hide h0
          have HS2 := hide hst
          have HP := hide hP
          have HQ := hide hQ
          have HO := hide hO
          clear hk2 h0 hst hP hQ hO
          by_cases hgo : k2 < n1 ∧ k2 < 60
          · obtain ⟨a, kd, p, t, rfl, e0, e1, e2⟩ := HA1.out k2 hgo.1
            have m0 := HO.out.keep0 e0
            have m1 := HO.out.keep0 e1
            have m2 := HO.out.keep0 e2
            have j1 : (k2 : Int) < (n1 : Int) := by omega
            have j2 : (k2 : Int) < 60 := by omega
            have j0 : (0 : Int) ≤ (k2 : Int) := by omega
            have DO := hide (do_any g2 dq q2 kd p t st2 (by have := H02.out; have := HS2.out; omega) wr HP.out.1 HP.out.2)
            unfold ptr at DO
            have hk1 := hgo.1
            have hk2 := hgo.2
            clear hgo e0 e1 e2
            go_wp2_with (go_at_call 7; refine DO.out.mono ?_; rintro e w3 ⟨g', st', rfl, s1, s2, R', D', O', hg'⟩; have TT := hide (Two.step (n := n1) (by omega) (by omega) H02.out HS2.out HP.out HQ.out HO.out hgw2 hdqw hne2 (Ne.symm hdd) s1 s2 R' D' O' hg'); clear s1 s2)
            go_roundw
            case rel =>
              refine (show Two _ _ _ _ _ _ _ _ _ _ (.int .i64 _) _ from ?_)
              have := TT.out
              push_cast at this
              exact this
            case measure => simp [intOf]; omega
          · have hK602 := HK2.out
            have f1 := HQ.out.1.facts
            have f2 := HP.out.1.facts
            have SX := hide (same_spec g g2 q q2 st st2 wr HQ.out.1 HP.out.1)
            have SR := hide (fun W (o : Only [] wr W) => rsame_spec dp dq q q2 f1.1 f2.1 HQ.out.1.len HP.out.1.len W (HQ.out.only0 o).2 (HP.out.only0 o).2)
            have SS := fun W (o : Only [] wr W) => same_spec g g q q st st W (HQ.out.only0 o).1 (HQ.out.only0 o).1
            rw [sameQ_yes rfl] at SS
            have SS := hide SS
            obtain ⟨bb, hbb⟩ : ∃ bb, sameQ q q2 = bb := ⟨_, rfl⟩
            rw [hbb] at SX SR
            unfold ptr at SX SR SS
            clear f1 f2 hbb
            rcases (show ((k2 : Int) < (n1 : Int) ∧ ¬ ((k2 : Int) < 60)) ∨ ¬ ((k2 : Int) < (n1 : Int)) from by omega) with ⟨hC1, hC2⟩ | hC1
            all_goals (
              clear hgo
              go_wp2_with (first
                | (go_at_call 8; (with_reducible refine SX.out.mono ?_); rintro e w5 ⟨rfl, o5⟩)
                | (go_at_call 9; refine (SR.out _ o5).mono ?_; rintro e w6 ⟨rfl, o6⟩)
                | (go_at_call 8; (with_reducible refine (SS.out _ (o5.trans0 o6)).mono ?_); rintro e w7 ⟨rfl, o7⟩)
                | (go_at_call 10; refine (known_any _).mono ?_; rintro e w8 ⟨rfl, o8⟩))
              go_ret
              exact ⟨rfl, (((HO.out.trans0 o5).trans0 o6).trans0 o7).trans0 o8⟩))
end Go.Proofs.Ytlaeiknkabajkaa
