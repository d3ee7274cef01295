/- Turns: the walk of Add. Condition: the turns lie. -/
import Derived.Test.YtnndengdlokmbaaTu3
import Derived.BigRegion
namespace Go.Proofs.Ytnndengdlokmbaa
open Go.RowKit
set_option linter.unusedVariables false
set_option linter.all false
set_option maxRecDepth 20000

def updb (f : Nat → Bool) (i : Nat) (v : Bool) : Nat → Bool := fun j => if j = i then v else f j
theorem add_arg (x g : Nat) (t p : Int) (rb : Bool) (w : World) (k0 : w.cell? ⟨x, 0, none⟩ = some (.pointer (some ⟨g, 0, none⟩))) (hb : ¬ (0 ≤ t ∧ t < 16 ∧ 1 ≤ p ∧ p ≤ 31)) : Calls Try.prog 11 #[ptr x, .int .i64 t, .int .i64 p, .bool rb] w fun e w' => e = .returned (.int .i64 2) ∧ w' = w := by
  have IS := hide (is_any x g w k0)
  have TT := tthread_any t w
  have PP := priority_any p w
  unfold ptr at IS ⊢
  by_cases c1 : 0 ≤ t ∧ t < 16
  · have d1 : (decide (0 ≤ t) && decide (t < 16)) = true := by simp; exact c1
    have d2 : (decide (1 ≤ p) && decide (p ≤ 31)) = false := by simp; omega
    rw [d1] at TT
    rw [d2] at PP
    have TT := hide TT
    have PP := hide PP
    clear c1 hb d1 d2
    go_enter Try.func11, Try.ntmps11
    go_wp2_with (first
      | (go_at_call 34; refine IS.out.mono ?_; rintro e w' ⟨rfl, hw⟩; obtain rfl := hw.symm; clear hw)
      | (go_at_call 35; refine TT.out.mono ?_; rintro e w' ⟨rfl, hw⟩; obtain rfl := hw.symm; clear hw)
      | (go_at_call 36; refine PP.out.mono ?_; rintro e w' ⟨rfl, hw⟩; obtain rfl := hw.symm; clear hw))
    go_ret
    exact ⟨rfl, rfl⟩
  · have d1 : (decide (0 ≤ t) && decide (t < 16)) = false := by simp; omega
    rw [d1] at TT
    have TT := hide TT
    clear c1 hb d1
    go_enter Try.func11, Try.ntmps11
    go_wp2_with (first
      | (go_at_call 34; refine IS.out.mono ?_; rintro e w' ⟨rfl, hw⟩; obtain rfl := hw.symm; clear hw)
      | (go_at_call 35; refine TT.out.mono ?_; rintro e w' ⟨rfl, hw⟩; obtain rfl := hw.symm; clear hw))
    go_ret
    exact ⟨rfl, rfl⟩
theorem add_state (x g t p : Nat) (rb : Bool) (ht : t < 16) (h1 : 1 ≤ p) (h2 : p ≤ 31) (w : World) (k0 : w.cell? ⟨x, 0, none⟩ = some (.pointer (some ⟨g, 0, none⟩))) (k1 : w.cell? ⟨x, 2 + t * 4, none⟩ = some (.bool true)) : Calls Try.prog 11 #[ptr x, .int .i64 t, .int .i64 p, .bool rb] w fun e w' => e = .returned (.int .i64 7) ∧ w' = w := by
  have IS := hide (is_any x g w k0)
  have TT := tthread_any t w
  have PP := priority_any p w
  have d1 : (decide (0 ≤ (t : Int)) && decide ((t : Int) < 16)) = true := by simp; omega
  have d2 : (decide (1 ≤ (p : Int)) && decide ((p : Int) ≤ 31)) = true := by simp; omega
  rw [d1] at TT
  rw [d2] at PP
  have TT := hide TT
  have PP := hide PP
  clear d1 d2
  have q1 : (0 : Int) ≤ (t : Int) := by omega
  have q2 : (t : Int) < 16 := by omega
  unfold ptr at IS ⊢
  go_enter Try.func11, Try.ntmps11
  go_wp2_with (first
    | (go_at_call 34; refine IS.out.mono ?_; rintro e w' ⟨rfl, hw⟩; obtain rfl := hw.symm; clear hw)
    | (go_at_call 35; refine TT.out.mono ?_; rintro e w' ⟨rfl, hw⟩; obtain rfl := hw.symm; clear hw)
    | (go_at_call 36; refine PP.out.mono ?_; rintro e w' ⟨rfl, hw⟩; obtain rfl := hw.symm; clear hw))
  go_ret
  exact ⟨rfl, rfl⟩
/-- The four cells of a thread anew. -/
def four (cs : Array Value) (t : Nat) (a b c d : Value) : Array Value := (((cs.setIfInBounds (2 + t * 4) a).setIfInBounds (2 + t * 4 + 1) b).setIfInBounds (2 + t * 4 + 2) c).setIfInBounds (2 + t * 4 + 3) d
theorem TC.four {cs : Array Value} {g : Nat} {Q : Int} {q q' : Nat → List Nat} {rob : Nat → Bool} {lf : Nat → Int} (h : TC cs g Q q rob lf) {t p : Nat} (rb : Bool) (l : Int) (ht : t < 16) (hq : ∀ u, prioQ q' u = if u = t then p else prioQ q u) :
    TC (four cs t (.bool (decide (p ≠ 0))) (.bool rb) (.int .i64 p) (.int .i64 l)) g Q q' (updb rob t rb) (upd lf t l) := by
  have hz := h.size
  unfold Ytnndengdlokmbaa.four
  refine ⟨by simpa using hz, ?_, ?_, fun u hu => ?_, fun u hu => ?_, fun u hu => ?_, fun u hu => ?_⟩
  · exact (set_ne (by omega)).trans ((set_ne (by omega)).trans ((set_ne (by omega)).trans ((set_ne (by omega)).trans h.r)))
  · exact (set_ne (by omega)).trans ((set_ne (by omega)).trans ((set_ne (by omega)).trans ((set_ne (by omega)).trans h.qu)))
  · refine (set_ne (by omega)).trans ((set_ne (by omega)).trans ((set_ne (by omega)).trans ?_))
    by_cases e : u = t
    · subst e; rw [set_eq (by omega), hq, if_pos rfl]
    · rw [set_ne (by omega), h.inn u hu, hq, if_neg e]
  · refine (set_ne (by omega)).trans ((set_ne (by omega)).trans ?_)
    by_cases e : u = t
    · subst e; rw [set_eq (by simp; omega)]; simp [updb]
    · rw [set_ne (by omega), set_ne (by omega), h.rob u hu]; simp [updb, e]
  · refine (set_ne (by omega)).trans ?_
    by_cases e : u = t
    · subst e; rw [set_eq (by simp; omega), hq, if_pos rfl]
    · rw [set_ne (by omega), set_ne (by omega), set_ne (by omega), h.pr u hu, hq, if_neg e]
  · by_cases e : u = t
    · subst e; rw [set_eq (by simp; omega), upd_same]
    · rw [set_ne (by omega), set_ne (by omega), set_ne (by omega), set_ne (by omega), h.lf u hu, upd_other _ _ e]
theorem only_four (x t : Nat) (a b c d : Value) (w : World) : Only [x] w ((((w.setCell ⟨x, 2 + t * 4, none⟩ a).setCell ⟨x, 2 + t * 4 + 1, none⟩ b).setCell ⟨x, 2 + t * 4 + 2, none⟩ c).setCell ⟨x, 2 + t * 4 + 3, none⟩ d) :=
  ((((Only.refl [x] w).setCell (p := ⟨x, 2 + t * 4, none⟩) (.inl (by simp)) _).setCell (p := ⟨x, 2 + t * 4 + 1, none⟩) (.inl (by simp)) _).setCell (p := ⟨x, 2 + t * 4 + 2, none⟩) (.inl (by simp)) _).setCell (p := ⟨x, 2 + t * 4 + 3, none⟩) (.inl (by simp)) _
theorem blk_four {w : World} {x : Nat} {cs : Array Value} (h : Blk w x 60 cs) (t : Nat) (a b c d : Value) : Blk ((((w.setCell ⟨x, 2 + t * 4, none⟩ a).setCell ⟨x, 2 + t * 4 + 1, none⟩ b).setCell ⟨x, 2 + t * 4 + 2, none⟩ c).setCell ⟨x, 2 + t * 4 + 3, none⟩ d) x 60 (four cs t a b c d) :=
  (((h.set_ _ a).set_ _ b).set_ _ c).set_ _ d
/-- What adding makes of the sequences. -/
theorem addQ_prio {w w' : World} {g g' : Nat} {q : Nat → List Nat} {st st' : Int} (h : RL w g q st) {t p : Nat} (ht : t < 16) (h1 : 1 ≤ p) (h2 : p ≤ 31) (hz : prioQ q t = 0) (h' : RL w' g' (putTQ q p t) st') (u : Nat) : prioQ (putTQ q p t) u = if u = t then p else prioQ q u := by
  have hr : remQ q t = q := by
    unfold remQ remC
    rw [if_neg]
    rw [Int.toNat_natCast, hz]
    simp
    omega
  have := moveQ_prio h ht h1 h2 false (t := t) (p := p) (g' := g') (w' := w') (st' := st') (by
    show RL w' g' (putTQ (remQ q t) p t) st'
    rw [hr]; exact h') u
  have e : moveQ q t p false = putTQ q p t := by
    show putTQ (remQ q t) p t = putTQ q p t
    rw [hr]
  rw [e] at this
  exact this
set_option maxHeartbeats 1000000 in
theorem add_good (x g : Nat) (Q : Int) (q : Nat → List Nat) (rob : Nat → Bool) (lf : Nat → Int) (st : Int) (hst : 0 ≤ st ∧ st < 900000) (t p : Nat) (rb : Bool) (ht : t < 16) (h1 : 1 ≤ p) (h2 : p ≤ 31) (hin : prioQ q t = 0) (w : World) (h : TT w x g Q q rob lf st) :
    Calls Try.prog 11 #[ptr x, .int .i64 t, .int .i64 p, .bool rb] w fun e w' => e = .returned (.int .i64 0) ∧ (∃ st', st ≤ st' ∧ st' ≤ st + 8 ∧ TT w' x g Q (putTQ q p t) (updb rob t rb) (upd lf t Q) st') ∧ Only [x, g] w w' := by
  have hne := h.ne
  obtain ⟨⟨cs, hb, hC⟩, hR⟩ := h
  have k0 := (hb.cell 0).trans hC.r
  have kin := (hb.cell (2 + t * 4)).trans (hC.inn t ht)
  rw [decide_eq_false (show ¬ (prioQ q t ≠ 0) by simpa using hin)] at kin
  have IS := hide (is_any x g w k0)
  have TH := tthread_any t w
  have PP := priority_any p w
  have d1 : (decide (0 ≤ (t : Int)) && decide ((t : Int) < 16)) = true := by simp; omega
  have d2 : (decide (1 ≤ (p : Int)) && decide ((p : Int) ≤ 31)) = true := by simp; omega
  rw [d1] at TH
  rw [d2] at PP
  have TH := hide TH
  have PP := hide PP
  have TL := hide (tail_spec g q st (by omega) p t w hR)
  have HB := hide hb
  have HC := hide hC
  have HR := hide hR
  have HIN := hide hin
  have q1 : (0 : Int) ≤ (t : Int) := by omega
  have q2 : (t : Int) < 16 := by omega
  clear hb hC hR hin d1 d2
  unfold ptr at IS TL ⊢
  go_enter Try.func11, Try.ntmps11
  go_wp2_with (first
    | (go_at_call 34; refine IS.out.mono ?_; rintro e w' ⟨rfl, hw⟩; obtain rfl := hw.symm; clear hw)
    | (go_at_call 35; refine TH.out.mono ?_; rintro e w' ⟨rfl, hw⟩; obtain rfl := hw.symm; clear hw)
    | (go_at_call 36; refine PP.out.mono ?_; rintro e w' ⟨rfl, hw⟩; obtain rfl := hw.symm; clear hw)
    | (go_at_call 37; refine TL.out.mono ?_; rintro e w2 ⟨rfl, ⟨st2, s1, s2, R2⟩, o2⟩; have B2 := hide (HB.out.only o2 (by simp; exact hne)); have m1 := (B2.out.cell 1).trans HC.out.qu; have m0 := (B2.out.cell (2 + t * 4)).trans (HC.out.inn t ht); have m2 := (B2.out.cell (2 + t * 4 + 1)).trans (HC.out.rob t ht); have m3 := (B2.out.cell (2 + t * 4 + 2)).trans (HC.out.pr t ht); have m4 := (B2.out.cell (2 + t * 4 + 3)).trans (HC.out.lf t ht); have f0 := B2.out.frozen (2 + t * 4); have f1 := B2.out.frozen (2 + t * 4 + 1); have f2 := B2.out.frozen (2 + t * 4 + 2); have f3 := B2.out.frozen (2 + t * 4 + 3)))
  have OO := hide (only_four x t (.bool true) (.bool rb) (.int .i64 p) (.int .i64 Q) w2)
  have BB := hide (blk_four B2.out t (.bool true) (.bool rb) (.int .i64 p) (.int .i64 Q))
  have HS1 := hide s1
  have HS2 := hide s2
  have HR2 := hide R2
  have HO2 := hide o2
  clear s1 s2 R2 o2
  go_region
  go_wp2_with fail
  go_ret
  have R4 := HR2.out.only OO.out.drew (by simp; exact Ne.symm hne)
  have hp := addQ_prio HR.out ht h1 h2 HIN.out R4
  have hT := HC.out.four rb Q ht hp
  rw [decide_eq_true (show p ≠ 0 by omega)] at hT
  refine ⟨rfl, ⟨st2, HS1.out, by have := HS2.out; omega, ⟨_, BB.out.drew, hT⟩, R4⟩, ?_⟩
  exact ((Only.refl [x, g] w).trans HO2.out (fun k hk => .inl (by simp at hk; simp [hk]))).trans OO.out.drew (fun k hk => .inl (by simp at hk; simp [hk]))
end Go.Proofs.Ytnndengdlokmbaa
