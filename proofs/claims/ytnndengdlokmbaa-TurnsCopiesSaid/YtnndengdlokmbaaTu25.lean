/- Turns, the document's answer: the walks of may, Add, Leave, Yield, Put, Move, Lift. Condition: the document's turns lie. -/
import Derived.Test.YtnndengdlokmbaaTu24
namespace Go.Proofs.Ytnndengdlokmbaa
open Go.RowKit
set_option linter.unusedVariables false
set_option linter.all false
set_option maxRecDepth 20000

/-- What a step leaves of the document's. -/
def DOp (w : World) (d : Nat) (Q : Int) (s : SS) (c : Int) (e : Ending) (w' : World) : Prop := e = .returned (.int .i64 c) ∧ DT w' d Q s ∧ Only [d] w w'
theorem inC_no {s : SS} {t p : Int} (h : ¬ mayT t p) : inC s t p = 2 := by unfold inC; rw [if_pos h]
theorem inC_six {s : SS} {T : Nat} {p : Int} (h : mayT T p) (hz : prioQ s.q T = 0) : inC s T p = 6 := by unfold inC; rw [if_neg (by simpa using h), if_pos (by rw [Int.toNat_natCast]; exact hz)]
theorem inC_ok {s : SS} {T : Nat} {p : Int} (h : mayT T p) (hz : prioQ s.q T ≠ 0) : inC s T p = 0 := by unfold inC; rw [if_neg (by simpa using h), if_neg (by rw [Int.toNat_natCast]; exact hz)]
section
variable (d : Nat) (Q : Int) (s : SS) (w : World) (h : DT w d Q s)
include h
set_option maxHeartbeats 1000000 in
theorem dmay (t p : Int) (c : Int) (hc : inC s t p = c) : Calls Try.prog 67 #[.pointer (some ⟨d, 0, none⟩), .int .i64 t, .int .i64 p] w fun e w' => e = .returned (.int .i64 c) ∧ w = w' := by
  subst hc
  by_cases hm : mayT t p
  · have M := hide (refMay_any t p true (decide_eq_true hm) w)
    obtain ⟨T, rfl⟩ := may_nat hm
    have hm' := hm
    obtain ⟨a1, a2, p1, p2⟩ := hm'
    have kp := DR.cP h (t := T) (by omega)
    by_cases hz : prioQ s.q T = 0
    · rw [inC_six hm hz]
      simp only [hz] at kp
      clear hm h hz p1 p2
      go_enter Try.func67, Try.ntmps67
      go_wp2_with (go_at_call 15; refine M.out.mono ?_; rintro e w2 ⟨rfl, hw⟩; obtain rfl := hw)
      go_ret
      exact ⟨rfl, rfl⟩
    · rw [inC_ok hm hz]
      obtain ⟨v, hv⟩ : ∃ v, prioQ s.q T = v := ⟨_, rfl⟩
      simp only [hv] at kp hz
      have g0 : ((v : Int) == 0) = false := by simp; exact hz
      clear hm h hv hz p1 p2
      go_enter Try.func67, Try.ntmps67
      go_wp2_with (go_at_call 15; refine M.out.mono ?_; rintro e w2 ⟨rfl, hw⟩; obtain rfl := hw)
      go_ret
      exact ⟨rfl, rfl⟩
  · have M := hide (refMay_any t p false (decide_eq_false hm) w)
    rw [inC_no hm]
    clear h hm
    go_enter Try.func67, Try.ntmps67
    go_wp2_with (go_at_call 15; refine M.out.mono ?_; rintro e w2 ⟨rfl, hw⟩; obtain rfl := hw)
    go_ret
    exact ⟨rfl, rfl⟩
set_option maxHeartbeats 2000000 in
theorem dadd (t p : Int) (rb : Bool) (h1 : QOk s.q) (h2 : QOk (sAdd Q s t p rb).q) : Calls Try.prog 41 #[.pointer (some ⟨d, 0, none⟩), .int .i64 t, .int .i64 p, .bool rb] w (DOp w d Q (sAdd Q s t p rb) (addC s t p)) := by
  by_cases hm : mayT t p
  · have M := hide (refMay_any t p true (decide_eq_true hm) w)
    obtain ⟨T, rfl⟩ := may_nat hm
    have hm' := hm
    obtain ⟨a1, a2, p1, p2⟩ := hm'
    have t16 : T < 16 := by omega
    have kp := DR.cP h (t := T) t16
    obtain ⟨P, rfl⟩ : ∃ P : Nat, p = P := ⟨p.toNat, by omega⟩
    by_cases hz : prioQ s.q T = 0
    · have hc : addC s T P = 0 := by unfold addC; rw [if_neg (by simpa using hm), if_neg (by rw [Int.toNat_natCast]; simpa using hz)]
      have hs : sAdd Q s T P rb = ⟨putTQ s.q P T, updb s.rob T rb, upd s.lf T Q⟩ := by unfold sAdd; rw [if_pos hc, Int.toNat_natCast]
      rw [hc, hs]
      rw [hs] at h2
      have G := goes_good d Q s.q (fun t => (prioQ s.q t : Int)) s.rob s.lf T 0 P t16 (by omega) (by omega) (by rw [hz]) (fun j => Nat.le_trans (h1.len j) (by omega)) false w h
      rw [goQ_add h1 t16 hz (by omega) (by omega)] at G
      have G := hide G
      have PA := hide (fun u => pr_add h1 t16 (by omega) (by omega) hz h2 u)
      simp only [hz] at kp
      clear hm h h1 h2 hz hc hs p1 p2
      go_enter Try.func41, Try.ntmps41
      go_wp2_with (first
        | (go_at_call 15; refine M.out.mono ?_; rintro e w1 ⟨rfl, hw⟩; obtain rfl := hw)
        | (go_at_call 65; refine G.out.mono ?_; rintro e w2 ⟨rfl, D2, o2⟩; have kR := D2.cR t16; have fR := D2.fz (49 + T); have kL := D2.cL t16; have fL := D2.fz (65 + T); have kQ := D2.cQ; have HD := hide D2; have HO := hide o2; clear D2 o2))
      go_region
      all_goals go_wp2_with fail
      all_goals go_ret
      all_goals exact ⟨rfl, (((HD.out.setR t16 rb).setL t16 Q).only0 (Only.refl [] _).drew).to (s := ⟨putTQ s.q P T, updb s.rob T rb, upd s.lf T Q⟩) rfl PA.out rfl rfl, ((HO.out.setCell (p := ⟨d, 49 + T, none⟩) (.inl (by simp)) _).setCell (p := ⟨d, 65 + T, none⟩) (.inl (by simp)) _).drew⟩
    · have hc : addC s T P = 7 := by unfold addC; rw [if_neg (by simpa using hm), if_pos (by rw [Int.toNat_natCast]; simpa using hz)]
      have hs : sAdd Q s T P rb = s := by unfold sAdd; rw [if_neg (by rw [hc]; decide)]
      rw [hc, hs]
      obtain ⟨v, hv⟩ : ∃ v, prioQ s.q T = v := ⟨_, rfl⟩
      simp only [hv] at kp hz
      have g0 : decide (0 < v) = true := decide_eq_true (by omega)
      have HD := hide h
      clear hm h h1 h2 hv hz hc hs p1 p2
      go_enter Try.func41, Try.ntmps41
      go_wp2_with (go_at_call 15; refine M.out.mono ?_; rintro e w1 ⟨rfl, hw⟩; obtain rfl := hw)
      go_ret
      exact ⟨rfl, HD.out, Only.refl _ _⟩
  · have M := hide (refMay_any t p false (decide_eq_false hm) w)
    have hc : addC s t p = 2 := by unfold addC; rw [if_pos hm]
    have hs : sAdd Q s t p rb = s := by unfold sAdd; rw [if_neg (by rw [hc]; decide)]
    rw [hc, hs]
    have HD := hide h
    clear h hm h1 h2 hc hs
    go_enter Try.func41, Try.ntmps41
    go_wp2_with (go_at_call 15; refine M.out.mono ?_; rintro e w1 ⟨rfl, hw⟩; obtain rfl := hw)
    go_ret
    exact ⟨rfl, HD.out, Only.refl _ _⟩
set_option maxHeartbeats 2000000 in
theorem dleave (t : Int) (h1 : QOk s.q) (h2 : QOk (sLeave s t).q) : Calls Try.prog 42 #[.pointer (some ⟨d, 0, none⟩), .int .i64 t] w (DOp w d Q (sLeave s t) (inC s t 1)) := by
  by_cases hm : mayT t 1
  · obtain ⟨T, rfl⟩ := may_nat hm
    have hm' := hm
    obtain ⟨a1, a2, p1, p2⟩ := hm'
    have t16 : T < 16 := by omega
    have kp := DR.cP h (t := T) t16
    by_cases hz : prioQ s.q T = 0
    · have hc : inC s T 1 = 6 := inC_six hm hz
      have hs : sLeave s T = s := by unfold sLeave; rw [if_neg (by rw [hc]; decide)]
      have M := hide (refMay_any T 1 true (decide_eq_true hm) w)
      rw [hc, hs]
      have HD := hide h
      simp only [hz] at kp
      clear hm h h1 h2 hz hc hs p1 p2
      go_enter Try.func42, Try.ntmps42
      go_wp2_with (go_at_call 15; refine M.out.mono ?_; rintro e w1 ⟨rfl, hw⟩; obtain rfl := hw)
      go_ret
      exact ⟨rfl, HD.out, Only.refl _ _⟩
    · have hc : inC s T 1 = 0 := inC_ok hm hz
      have M := hide (refMay_any T 1 true (decide_eq_true hm) w)
      have hpr := h1.pr hz
      have hs : sLeave s T = ⟨remQ s.q T, updb s.rob T false, upd s.lf T 0⟩ := by unfold sLeave; rw [if_pos hc, Int.toNat_natCast]
      rw [hc, hs]
      rw [hs] at h2
      have G := take_good d Q s.q (fun t => (prioQ s.q t : Int)) s.rob s.lf T (prioQ s.q T) t16 (by omega) rfl (Nat.le_trans (h1.len _) (by omega)) w h
      rw [takeQ_rem h1 t16 hz] at G
      have G := hide G
      have PA := hide (fun u => pr_rem h1 t16 hz h2 u)
      obtain ⟨v, hv⟩ : ∃ v, prioQ s.q T = v := ⟨_, rfl⟩
      simp only [hv] at kp hz
      have g0 : ((v : Int) == 0) = false := by simp; exact hz
      clear hm h h1 h2 hz hc hs p1 p2 hpr hv
      go_enter Try.func42, Try.ntmps42
      go_wp2_with (first
        | (go_at_call 15; refine M.out.mono ?_; rintro e w1 ⟨rfl, hw⟩; obtain rfl := hw)
        | (go_at_call 66; refine G.out.mono ?_; rintro e w2 ⟨rfl, D2, o2⟩; have kP := D2.cP t16; have fP := D2.fz (33 + T); have kR := D2.cR t16; have fR := D2.fz (49 + T); have kL := D2.cL t16; have fL := D2.fz (65 + T); have HD := hide D2; have HO := hide o2; clear D2 o2))
      go_ret
      exact ⟨rfl, (((HD.out.setP t16 0).setR t16 false).setL t16 0).to (s := ⟨remQ s.q T, updb s.rob T false, upd s.lf T 0⟩) rfl PA.out rfl rfl, (((HO.out.setCell (p := ⟨d, 33 + T, none⟩) (.inl (by simp)) _).setCell (p := ⟨d, 49 + T, none⟩) (.inl (by simp)) _).setCell (p := ⟨d, 65 + T, none⟩) (.inl (by simp)) _)⟩
  · have M := hide (refMay_any t 1 false (decide_eq_false hm) w)
    have hs : sLeave s t = s := by unfold sLeave; rw [if_neg (by rw [inC_no hm]; decide)]
    rw [inC_no hm, hs]
    have HD := hide h
    clear h hm h1 h2 hs
    go_enter Try.func42, Try.ntmps42
    go_wp2_with (go_at_call 15; refine M.out.mono ?_; rintro e w1 ⟨rfl, hw⟩; obtain rfl := hw)
    go_ret
    exact ⟨rfl, HD.out, Only.refl _ _⟩
set_option maxHeartbeats 2000000 in
theorem dyield (t : Int) (h1 : QOk s.q) (h2 : QOk (sYield s t).q) : Calls Try.prog 43 #[.pointer (some ⟨d, 0, none⟩), .int .i64 t] w (DOp w d Q (sYield s t) (inC s t 1)) := by
  by_cases hm : mayT t 1
  · obtain ⟨T, rfl⟩ := may_nat hm
    have hm' := hm
    obtain ⟨a1, a2, p1, p2⟩ := hm'
    have t16 : T < 16 := by omega
    have kp := DR.cP h (t := T) t16
    by_cases hz : prioQ s.q T = 0
    · have hc : inC s T 1 = 6 := inC_six hm hz
      have hs : sYield s T = s := by unfold sYield; rw [if_neg (by rw [hc]; decide)]
      have M := hide (dmay d Q s w h T 1 6 hc)
      rw [hc, hs]
      have HD := hide h
      simp only [hz] at kp
      clear hm h h1 h2 hz hc hs p1 p2
      go_enter Try.func43, Try.ntmps43
      go_wp2_with (go_at_call 67; refine M.out.mono ?_; rintro e w1 ⟨rfl, hw⟩; obtain rfl := hw)
      go_ret
      exact ⟨rfl, HD.out, Only.refl _ _⟩
    · have hc : inC s T 1 = 0 := inC_ok hm hz
      have M := hide (dmay d Q s w h T 1 0 hc)
      have hpr := h1.pr hz
      have hs : sYield s T = ⟨moveQ s.q T (prioQ s.q T) false, s.rob, s.lf⟩ := by unfold sYield; rw [if_pos hc, Int.toNat_natCast]
      rw [hc, hs]
      rw [hs] at h2
      have G := goes_good d Q s.q (fun t => (prioQ s.q t : Int)) s.rob s.lf T (prioQ s.q T) (prioQ s.q T) t16 (by omega) (by omega) rfl (fun j => Nat.le_trans (h1.len j) (by omega)) false w h
      rw [goQ_move h1 t16 hz (by omega) (by omega)] at G
      have G := hide G
      have PA := hide (fun u => pr_move h1 t16 (by omega) (by omega) false h2 u)
      obtain ⟨v, hv⟩ : ∃ v, prioQ s.q T = v := ⟨_, rfl⟩
      simp only [hv] at kp G
      clear hm h h1 h2 hz hc hs p1 p2 hpr
      go_enter Try.func43, Try.ntmps43
      go_wp2_with (first
        | (go_at_call 67; refine M.out.mono ?_; rintro e w1 ⟨rfl, hw⟩; obtain rfl := hw)
        | (go_at_call 65; refine G.out.mono ?_; rintro e w2 ⟨rfl, D2, o2⟩))
      go_ret
      exact ⟨rfl, D2.to (s := ⟨moveQ s.q T (prioQ s.q T) false, s.rob, s.lf⟩) (by rw [hv]) (fun u => by rw [← hv]; exact PA.out u) rfl rfl, o2⟩
  · have M := hide (dmay d Q s w h t 1 2 (inC_no hm))
    have hs : sYield s t = s := by unfold sYield; rw [if_neg (by rw [inC_no hm]; decide)]
    rw [inC_no hm, hs]
    have HD := hide h
    clear h hm h1 h2 hs
    go_enter Try.func43, Try.ntmps43
    go_wp2_with (go_at_call 67; refine M.out.mono ?_; rintro e w1 ⟨rfl, hw⟩; obtain rfl := hw)
    go_ret
    exact ⟨rfl, HD.out, Only.refl _ _⟩
set_option maxHeartbeats 2000000 in
theorem dput (t p : Int) (rb : Bool) (h1 : QOk s.q) (h2 : QOk (sPut Q s t p rb).q) : Calls Try.prog 45 #[.pointer (some ⟨d, 0, none⟩), .int .i64 t, .int .i64 p, .bool rb] w (DOp w d Q (sPut Q s t p rb) (inC s t p)) := by
  by_cases hm : mayT t p
  · obtain ⟨T, rfl⟩ := may_nat hm
    have hm' := hm
    obtain ⟨a1, a2, p1, p2⟩ := hm'
    have t16 : T < 16 := by omega
    have kp := DR.cP h (t := T) t16
    obtain ⟨P, rfl⟩ : ∃ P : Nat, p = P := ⟨p.toNat, by omega⟩
    by_cases hz : prioQ s.q T = 0
    · have hc : inC s T P = 6 := inC_six hm hz
      have hs : sPut Q s T P rb = s := by unfold sPut; rw [if_neg (by rw [hc]; decide)]
      have M := hide (dmay d Q s w h T P 6 hc)
      rw [hc, hs]
      have HD := hide h
      simp only [hz] at kp
      clear hm h h1 h2 hz hc hs p1 p2
      go_enter Try.func45, Try.ntmps45
      go_wp2_with (go_at_call 67; refine M.out.mono ?_; rintro e w1 ⟨rfl, hw⟩; obtain rfl := hw)
      go_ret
      exact ⟨rfl, HD.out, Only.refl _ _⟩
    · have hc : inC s T P = 0 := inC_ok hm hz
      have M := hide (dmay d Q s w h T P 0 hc)
      have hpr := h1.pr hz
      have hs : sPut Q s T P rb = ⟨moveQ s.q T P false, updb s.rob T rb, upd s.lf T Q⟩ := by unfold sPut; rw [if_pos hc, Int.toNat_natCast, Int.toNat_natCast]
      rw [hc, hs]
      rw [hs] at h2
      have G := goes_good d Q s.q (fun t => (prioQ s.q t : Int)) s.rob s.lf T (prioQ s.q T) P t16 (by omega) (by omega) rfl (fun j => Nat.le_trans (h1.len j) (by omega)) false w h
      rw [goQ_move h1 t16 hz (by omega) (by omega)] at G
      have G := hide G
      have PA := hide (fun u => pr_move h1 t16 (by omega) (by omega) false h2 u)
      clear hm h h1 h2 hz hc hs p1 p2 hpr kp
      go_enter Try.func45, Try.ntmps45
      go_wp2_with (first
        | (go_at_call 67; refine M.out.mono ?_; rintro e w1 ⟨rfl, hw⟩; obtain rfl := hw)
        | (go_at_call 65; refine G.out.mono ?_; rintro e w2 ⟨rfl, D2, o2⟩; have kR := D2.cR t16; have fR := D2.fz (49 + T); have kL := D2.cL t16; have fL := D2.fz (65 + T); have kQ := D2.cQ; have HD := hide D2; have HO := hide o2; clear D2 o2))
      go_region
      all_goals go_wp2_with fail
      all_goals go_ret
      all_goals exact ⟨rfl, (((HD.out.setR t16 rb).setL t16 Q).only0 (Only.refl [] _).drew).to (s := ⟨moveQ s.q T P false, updb s.rob T rb, upd s.lf T Q⟩) rfl PA.out rfl rfl, ((HO.out.setCell (p := ⟨d, 49 + T, none⟩) (.inl (by simp)) _).setCell (p := ⟨d, 65 + T, none⟩) (.inl (by simp)) _).drew⟩
  · have M := hide (dmay d Q s w h t p 2 (inC_no hm))
    have hs : sPut Q s t p rb = s := by unfold sPut; rw [if_neg (by rw [inC_no hm]; decide)]
    rw [inC_no hm, hs]
    have HD := hide h
    clear h hm h1 h2 hs
    go_enter Try.func45, Try.ntmps45
    go_wp2_with (go_at_call 67; refine M.out.mono ?_; rintro e w1 ⟨rfl, hw⟩; obtain rfl := hw)
    go_ret
    exact ⟨rfl, HD.out, Only.refl _ _⟩
set_option maxHeartbeats 2000000 in
theorem dmove (t p : Int) (h1 : QOk s.q) (h2 : QOk (sMove s t p).q) : Calls Try.prog 46 #[.pointer (some ⟨d, 0, none⟩), .int .i64 t, .int .i64 p] w (DOp w d Q (sMove s t p) (inC s t p)) := by
  by_cases hm : mayT t p
  · obtain ⟨T, rfl⟩ := may_nat hm
    have hm' := hm
    obtain ⟨a1, a2, p1, p2⟩ := hm'
    have t16 : T < 16 := by omega
    have kp := DR.cP h (t := T) t16
    obtain ⟨P, rfl⟩ : ∃ P : Nat, p = P := ⟨p.toNat, by omega⟩
    by_cases hz : prioQ s.q T = 0
    · have hc : inC s T P = 6 := inC_six hm hz
      have hs : sMove s T P = s := by unfold sMove; rw [if_neg (by rw [hc]; decide)]
      have M := hide (dmay d Q s w h T P 6 hc)
      rw [hc, hs]
      have HD := hide h
      simp only [hz] at kp
      clear hm h h1 h2 hz hc hs p1 p2
      go_enter Try.func46, Try.ntmps46
      go_wp2_with (go_at_call 67; refine M.out.mono ?_; rintro e w1 ⟨rfl, hw⟩; obtain rfl := hw)
      go_ret
      exact ⟨rfl, HD.out, Only.refl _ _⟩
    · have hc : inC s T P = 0 := inC_ok hm hz
      have M := hide (dmay d Q s w h T P 0 hc)
      have hpr := h1.pr hz
      by_cases he : P = prioQ s.q T
      · have hs : sMove s T P = s := by unfold sMove; rw [if_pos hc, Int.toNat_natCast, Int.toNat_natCast, if_pos he]
        rw [hc, hs]
        have g1 : ((P : Int) != ((prioQ s.q T : Nat) : Int)) = false := by simp [he]
        obtain ⟨v, hv⟩ : ∃ v, prioQ s.q T = v := ⟨_, rfl⟩
        simp only [hv] at kp g1
        have HD := hide h
        clear hm h h1 h2 hz hc hs p1 p2 hpr hv he
        go_enter Try.func46, Try.ntmps46
        go_wp2_with (go_at_call 67; refine M.out.mono ?_; rintro e w1 ⟨rfl, hw⟩; obtain rfl := hw)
        go_ret
        exact ⟨rfl, HD.out, Only.refl _ _⟩
      · have hs : sMove s T P = ⟨moveQ s.q T P (decide (P < prioQ s.q T)), s.rob, s.lf⟩ := by unfold sMove; rw [if_pos hc, Int.toNat_natCast, Int.toNat_natCast, if_neg he]
        rw [hc, hs]
        rw [hs] at h2
        have g1 : ((P : Int) != ((prioQ s.q T : Nat) : Int)) = true := by simp; omega
        have G := goes_good d Q s.q (fun t => (prioQ s.q t : Int)) s.rob s.lf T (prioQ s.q T) P t16 (by omega) (by omega) rfl (fun j => Nat.le_trans (h1.len j) (by omega)) (decide (P < prioQ s.q T)) w h
        rw [goQ_move h1 t16 hz (by omega) (by omega)] at G
        have G := hide G
        have PA := hide (fun u => pr_move h1 t16 (by omega) (by omega) (decide (P < prioQ s.q T)) h2 u)
        obtain ⟨hb, hhb⟩ : ∃ hb, (decide (P < prioQ s.q T)) = hb := ⟨_, rfl⟩
        have g2 := hhb
        simp only [hhb] at G PA ⊢
        obtain ⟨v, hv⟩ : ∃ v, prioQ s.q T = v := ⟨_, rfl⟩
        simp only [hv] at kp g1 g2
        clear hm h h1 h2 hz hc hs p1 p2 hpr he hv hhb
        go_enter Try.func46, Try.ntmps46
        go_wp2_with (first
          | (go_at_call 67; refine M.out.mono ?_; rintro e w1 ⟨rfl, hw⟩; obtain rfl := hw)
          | (go_at_call 65; refine G.out.mono ?_; rintro e w2 ⟨rfl, D2, o2⟩))
        go_ret
        exact ⟨rfl, D2.to (s := ⟨moveQ s.q T P hb, s.rob, s.lf⟩) rfl PA.out rfl rfl, o2⟩
  · have M := hide (dmay d Q s w h t p 2 (inC_no hm))
    have hs : sMove s t p = s := by unfold sMove; rw [if_neg (by rw [inC_no hm]; decide)]
    rw [inC_no hm, hs]
    have HD := hide h
    clear h hm h1 h2 hs
    go_enter Try.func46, Try.ntmps46
    go_wp2_with (go_at_call 67; refine M.out.mono ?_; rintro e w1 ⟨rfl, hw⟩; obtain rfl := hw)
    go_ret
    exact ⟨rfl, HD.out, Only.refl _ _⟩
set_option maxHeartbeats 2000000 in
theorem dlift (t p : Int) (h1 : QOk s.q) (h2 : QOk (sLift s t p).q) : Calls Try.prog 47 #[.pointer (some ⟨d, 0, none⟩), .int .i64 t, .int .i64 p] w (DOp w d Q (sLift s t p) (inC s t p)) := by
  by_cases hm : mayT t p
  · obtain ⟨T, rfl⟩ := may_nat hm
    have hm' := hm
    obtain ⟨a1, a2, p1, p2⟩ := hm'
    have t16 : T < 16 := by omega
    have kp := DR.cP h (t := T) t16
    obtain ⟨P, rfl⟩ : ∃ P : Nat, p = P := ⟨p.toNat, by omega⟩
    by_cases hz : prioQ s.q T = 0
    · have hc : inC s T P = 6 := inC_six hm hz
      have hs : sLift s T P = s := by unfold sLift; rw [if_neg (by rw [hc]; decide)]
      have M := hide (dmay d Q s w h T P 6 hc)
      rw [hc, hs]
      have HD := hide h
      simp only [hz] at kp
      clear hm h h1 h2 hz hc hs p1 p2
      go_enter Try.func47, Try.ntmps47
      go_wp2_with (go_at_call 67; refine M.out.mono ?_; rintro e w1 ⟨rfl, hw⟩; obtain rfl := hw)
      go_ret
      exact ⟨rfl, HD.out, Only.refl _ _⟩
    · have hc : inC s T P = 0 := inC_ok hm hz
      have M := hide (dmay d Q s w h T P 0 hc)
      have hpr := h1.pr hz
      by_cases he : P = prioQ s.q T
      · have hs : sLift s T P = s := by unfold sLift; rw [if_pos hc, Int.toNat_natCast, Int.toNat_natCast, if_pos he]
        rw [hc, hs]
        have g1 : ((P : Int) != ((prioQ s.q T : Nat) : Int)) = false := by simp [he]
        obtain ⟨v, hv⟩ : ∃ v, prioQ s.q T = v := ⟨_, rfl⟩
        simp only [hv] at kp g1
        have HD := hide h
        clear hm h h1 h2 hz hc hs p1 p2 hpr hv he
        go_enter Try.func47, Try.ntmps47
        go_wp2_with (go_at_call 67; refine M.out.mono ?_; rintro e w1 ⟨rfl, hw⟩; obtain rfl := hw)
        go_ret
        exact ⟨rfl, HD.out, Only.refl _ _⟩
      · have hs : sLift s T P = ⟨moveQ s.q T P true, s.rob, s.lf⟩ := by unfold sLift; rw [if_pos hc, Int.toNat_natCast, Int.toNat_natCast, if_neg he]
        rw [hc, hs]
        rw [hs] at h2
        have g1 : ((P : Int) != ((prioQ s.q T : Nat) : Int)) = true := by simp; omega
        have G := goes_good d Q s.q (fun t => (prioQ s.q t : Int)) s.rob s.lf T (prioQ s.q T) P t16 (by omega) (by omega) rfl (fun j => Nat.le_trans (h1.len j) (by omega)) true w h
        rw [goQ_move h1 t16 hz (by omega) (by omega)] at G
        have G := hide G
        have PA := hide (fun u => pr_move h1 t16 (by omega) (by omega) true h2 u)
        obtain ⟨v, hv⟩ : ∃ v, prioQ s.q T = v := ⟨_, rfl⟩
        simp only [hv] at kp g1
        clear hm h h1 h2 hz hc hs p1 p2 hpr he hv
        go_enter Try.func47, Try.ntmps47
        go_wp2_with (first
          | (go_at_call 67; refine M.out.mono ?_; rintro e w1 ⟨rfl, hw⟩; obtain rfl := hw)
          | (go_at_call 65; refine G.out.mono ?_; rintro e w2 ⟨rfl, D2, o2⟩))
        go_ret
        exact ⟨rfl, D2.to (s := ⟨moveQ s.q T P true, s.rob, s.lf⟩) rfl PA.out rfl rfl, o2⟩
  · have M := hide (dmay d Q s w h t p 2 (inC_no hm))
    have hs : sLift s t p = s := by unfold sLift; rw [if_neg (by rw [inC_no hm]; decide)]
    rw [inC_no hm, hs]
    have HD := hide h
    clear h hm h1 h2 hs
    go_enter Try.func47, Try.ntmps47
    go_wp2_with (go_at_call 67; refine M.out.mono ?_; rintro e w1 ⟨rfl, hw⟩; obtain rfl := hw)
    go_ret
    exact ⟨rfl, HD.out, Only.refl _ _⟩
end
end Go.Proofs.Ytnndengdlokmbaa
