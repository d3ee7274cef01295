/- Turns, the document's answer: the walks of Runs and Tick. Condition: the document's turns lie. -/
import Derived.Test.YtnndengdlokmbaaTu25
import Derived.Test.YtnndengdlokmbaaTuG
namespace Go.Proofs.Ytnndengdlokmbaa
open Go.RowKit
set_option linter.unusedVariables false
set_option linter.all false
set_option maxRecDepth 20000

theorem upd_upd (f : Nat → Int) (t : Nat) (a b : Int) : upd (upd f t a) t b = upd f t b := by
  funext u
  unfold upd
  split <;> simp_all
/-- What the tick answers. -/
def tickA (s : SS) : Value := match tickT s with
  | none => .tuple #[.int .i64 0, .bool false]
  | some t => .tuple #[.int .i64 t, .bool true]
section
variable (d : Nat) (Q : Int) (s : SS) (w : World) (h : DT w d Q s)
include h
set_option maxHeartbeats 2000000 in
theorem druns (hk : QOk s.q) : Calls Try.prog 48 #[.pointer (some ⟨d, 0, none⟩)] w fun e w' => e = .returned (.tuple #[.int .i64 (firstT s.q), .bool (decide (allQ s.q ≠ []))]) ∧ w = w' := by
  have HD := hide h
  have h0 := hide hk.zero
  have HL := hide hk.len
  clear h hk
  go_enter Try.func48, Try.ntmps48
  go_wp2_with fail
  go_loopw [4] (fun vp wr => ∃ p : Nat, p ≤ 31 ∧ vp = .int .i64 p ∧ w = wr ∧ ∀ j, p < j → j < 32 → s.q j = []) (fun vp _ => (intOf vp).toNat)
  case atStart => exact ⟨31, by omega, rfl, rfl, fun j h1 h2 => by omega⟩
  case round =>
    obtain ⟨p, hp, rfl, hw, hj⟩ := hrel
    obtain rfl := hw
    have HJ := hide hj
    clear hj
    by_cases hlt : 0 < p
    · obtain ⟨k, hk⟩ : ∃ k, p = k + 1 := ⟨p - 1, by omega⟩
      have HK := hide hk
      have e1 : (0 : Int) < (p : Int) := by omega
      have e2 : IntKind.i64.wrap ((p : Int) - 1) = (k : Int) := by rw [IntWalk.i64_in _ (by omega)]; omega
      have e3 : (0 : Int) ≤ (p : Int) := by omega
      have e4 : (p : Int) < 32 := by omega
      obtain ⟨A, c, kc, hr⟩ := DR.cS HD.out (p := p) (by omega)
      have hl := HL.out p
      cases hq : s.q p with
      | nil =>
        rw [hq] at kc
        have HQ := hide hq
        clear hk hr hq
        go_wp2_with fail
        go_roundw
        case rel => exact ⟨k, by have := HK.out; omega, by go_num, trivial, fun j h1 h2 => by
          have := HK.out
          by_cases e : j = p
          · subst e; exact HQ.out
          · exact HJ.out j (by omega) h2⟩
        case measure => simp [intOf]; have := HK.out; omega
      | cons t r =>
        obtain ⟨f1, f2⟩ := first_top hq (by omega) HJ.out
        have F2 := hide f2
        have F1 := hide (decide_eq_true f1)
        rw [hq] at kc hr
        rw [hq] at hl
        obtain ⟨n, hn⟩ : ∃ n, (t :: r).length = n := ⟨_, rfl⟩
        rw [hn] at kc hl
        have n0 : (0 : Int) < (n : Int) := by rw [← hn]; simp
        obtain ⟨gg, rfl, kh⟩ := Nsrc.head hr.nsrc
        clear hk hr hq f1 f2 hn
        go_wp2_with fail
        exact bodyPost_ret (v := .tuple #[.int .i64 t, .bool true]) (by simp [results, Try.results48, go_sem]) rfl ⟨by rw [F2.out, F1.out], rfl⟩
    · obtain rfl : p = 0 := by omega
      have hA : allQ s.q = [] := below_none _ _ fun j hj => by
        by_cases e : j = 0
        · subst e; exact h0.out
        · exact HJ.out j (by omega) hj
      have F2 := hide (show firstT s.q = 0 by unfold firstT; rw [hA])
      have F1 := hide (decide_eq_false (show ¬ (allQ s.q ≠ []) by rw [hA]; simp))
      clear hA
      go_wp2_with fail
      exact bodyPost_ret (v := .tuple #[.int .i64 0, .bool false]) (by simp [results, Try.results48, go_sem]) rfl ⟨by rw [F2.out, F1.out], rfl⟩
set_option maxHeartbeats 4000000 in
theorem dtick (hk : QOk s.q) (hk' : QOk (sTick Q s).q) (hl : LfOk s) : Calls Try.prog 44 #[.pointer (some ⟨d, 0, none⟩)] w fun e w' => e = .returned (tickA s) ∧ DT w' d Q (sTick Q s) ∧ Only [d] w w' := by
  have RU := druns d Q s w h hk
  have HD := hide h
  unfold tickA tickT
  unfold sTick at hk' ⊢
  cases hq : allQ s.q with
  | nil =>
    rw [show firstT s.q = 0 by unfold firstT; rw [hq], decide_eq_false (show ¬ (allQ s.q ≠ []) by rw [hq]; simp)] at RU
    have RU := hide RU
    clear h hk hk' hq hl
    dsimp only
    go_enter Try.func44, Try.ntmps44
    go_wp2_with (go_at_call 48; refine RU.out.mono ?_; rintro e w2 ⟨rfl, hw⟩; obtain rfl := hw)
    exact bodyPost_ret (v := .tuple #[.int .i64 0, .bool false]) (by simp [results, Try.results44, go_sem]) rfl ⟨rfl, HD.out, Only.refl _ _⟩
  | cons y r =>
    obtain ⟨p, t⟩ := y
    have hk0 := hk
    obtain ⟨W0, g0, st0, hR⟩ := hk0
    obtain ⟨a1, a2, a3, a4, -, -, -, -⟩ := hR.first hq
    rw [show firstT s.q = (t : Int) by unfold firstT; rw [hq], decide_eq_true (show allQ s.q ≠ [] by rw [hq]; simp)] at RU
    have RU := hide RU
    have hlt := hl t
    have i1 : (0 : Int) ≤ (t : Int) := by omega
    have i2 : (t : Int) < 16 := by omega
    rw [hq] at hk'
    dsimp only at hk' ⊢
    have kR := DR.cR HD.out a4
    have kP := DR.cP HD.out a4
    have kL := DR.cL HD.out a4
    have kQ := DR.cQ HD.out
    have fL := DR.fz HD.out (65 + t)
    simp only [a1] at kP
    clear h hR hq hl
    cases hrb : s.rob t with
    | false =>
      rw [hrb] at kR
      simp only [Bool.false_eq_true, false_and, if_false]
      clear hk hk' hrb kP kL kQ fL
      go_enter Try.func44, Try.ntmps44
      go_wp2_with (go_at_call 48; refine RU.out.mono ?_; rintro e w2 ⟨rfl, hw⟩; obtain rfl := hw)
      exact bodyPost_ret (v := .tuple #[.int .i64 0, .bool false]) (by simp [results, Try.results44, go_sem]) rfl ⟨rfl, HD.out, Only.refl _ _⟩
    | true =>
      rw [hrb] at kR hk'
      simp only [if_true, true_and] at hk' ⊢
      have w1 : IntKind.i64.wrap (s.lf t - 1) = s.lf t - 1 := IntWalk.i64_in _ (by omega)
      have D1 := HD.out.setL a4 (s.lf t - 1)
      have kL1 := D1.cL a4
      have kR1 := D1.cR a4
      have kP1 := D1.cP a4
      simp only [a1, upd_same] at kP1 kL1
      have H1 := hide (D1.only0 (Only.refl [] _).drew)
      have O1 := hide ((Only.refl [d] w).setCell (p := ⟨d, 65 + t, none⟩) (.inl (by simp)) (.int .i64 (s.lf t - 1))).drew
      by_cases hl1 : 1 < s.lf t
      · rw [if_neg (by simp [hl1]), if_pos hl1]
        have d1 : decide (1 < s.lf t) = true := decide_eq_true hl1
        clear hk hk' hrb D1 hl1 kP kP1
        go_enter Try.func44, Try.ntmps44
        go_wp2_with (go_at_call 48; refine RU.out.mono ?_; rintro e w2 ⟨rfl, hw⟩; obtain rfl := hw)
        go_region
        all_goals go_wp2_with fail
        all_goals exact bodyPost_ret (v := .tuple #[.int .i64 0, .bool false]) (by simp [results, Try.results44, go_sem]) rfl ⟨rfl, H1.out.to (s := ⟨s.q, s.rob, upd s.lf t (s.lf t - 1)⟩) rfl (fun _ => rfl) rfl rfl, O1.out⟩
      · rw [if_pos hl1, if_neg hl1] 
        rw [if_neg hl1] at hk'
        have d1 : decide (1 < s.lf t) = false := decide_eq_false hl1
        have hz : prioQ s.q t ≠ 0 := by omega
        have GO := hide (fun W (hh : DR W d Q s.q (fun t => (prioQ s.q t : Int)) s.rob (upd s.lf t (s.lf t - 1))) => goes_good d Q s.q (fun t => (prioQ s.q t : Int)) s.rob (upd s.lf t (s.lf t - 1)) t (prioQ s.q t) p a4 (by omega) (by omega) rfl (fun j => Nat.le_trans (hk.len j) (by omega)) false W hh)
        rw [goQ_move hk a4 hz (by omega) (by omega)] at GO
        have PA := hide (fun u => pr_move hk a4 (by omega) (by omega) false hk' u)
        clear hk hk' hrb D1 hl1 kP hz
        go_enter Try.func44, Try.ntmps44
        go_wp2_with (go_at_call 48; refine RU.out.mono ?_; rintro e w2 ⟨rfl, hw⟩; obtain rfl := hw)
        go_region
        all_goals go_wp2_with (go_at_call 65; refine (GO.out _ H1.out).mono ?_; rintro e w3 ⟨rfl, D3, o3⟩; have kL3 := D3.cL a4; have fL3 := D3.fz (65 + t); have kQ3 := D3.cQ; have D4 := hide ((D3.setL a4 Q).only0 (Only.refl [] _).drew); have O4 := hide (((O1.out.trans' o3).setCell (p := ⟨d, 65 + t, none⟩) (.inl (by simp)) (.int .i64 Q)).drew); clear D3 o3)
        all_goals go_region
        all_goals go_wp2_with fail
        all_goals exact bodyPost_ret (v := .tuple #[.int .i64 t, .bool true]) (by simp [results, Try.results44, go_sem]) rfl ⟨rfl, D4.out.to (s := ⟨moveQ s.q t p false, s.rob, upd s.lf t Q⟩) rfl PA.out rfl (upd_upd _ _ _ _), O4.out⟩
end
end Go.Proofs.Ytnndengdlokmbaa
