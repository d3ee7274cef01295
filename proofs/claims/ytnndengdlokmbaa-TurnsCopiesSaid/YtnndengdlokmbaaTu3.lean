/- Turns: the walk of goes. Condition: the turns lie, the thread is in. -/
import Derived.Test.YtnndengdlokmbaaTu2
namespace Go.Proofs.Ytnndengdlokmbaa
open Go.RowKit
set_option linter.unusedVariables false
set_option linter.all false
set_option maxRecDepth 20000

theorem moveQ_prio {w w' : World} {g g' : Nat} {q : Nat → List Nat} {st st' : Int} (h : RL w g q st) {t p : Nat} (ht : t < 16) (h1 : 1 ≤ p) (h2 : p ≤ 31) (hd : Bool) (h' : RL w' g' (moveQ q t p hd) st') (u : Nat) : prioQ (moveQ q t p hd) u = if u = t then p else prioQ q u := by
  by_cases e : u = t
  · subst e
    rw [if_pos rfl]
    exact h'.prio_mem ((moveQ_mem h ht h1 h2 hd u p).2 (.inl ⟨rfl, rfl⟩))
  · rw [if_neg e]
    exact h.prio_eq h' (fun j => by rw [moveQ_mem h ht h1 h2 hd u j]; simp [e])
/-- The cells behind a move. -/
theorem TC.move {cs : Array Value} {g : Nat} {Q : Int} {q q' : Nat → List Nat} {rob : Nat → Bool} {lf : Nat → Int} (h : TC cs g Q q rob lf) {t p : Nat} (ht : t < 16) (hp : p ≠ 0) (hin : prioQ q t ≠ 0) (hq : ∀ u, prioQ q' u = if u = t then p else prioQ q u) : TC (cs.setIfInBounds (2 + t * 4 + 2) (.int .i64 p)) g Q q' rob lf := by
  have hz := h.size
  refine ⟨by simpa using hz, (set_ne (by omega)).trans h.r, (set_ne (by omega)).trans h.qu, fun u hu => ?_, fun u hu => (set_ne (by omega)).trans (h.rob u hu), fun u hu => ?_, fun u hu => (set_ne (by omega)).trans (h.lf u hu)⟩
  · rw [set_ne (by omega), h.inn u hu, hq u]
    by_cases e : u = t
    · subst e; rw [if_pos rfl, decide_eq_true hin, decide_eq_true hp]
    · rw [if_neg e]
  · by_cases e : u = t
    · subst e; rw [set_eq (by omega), hq, if_pos rfl]
    · rw [set_ne (by omega), h.pr u hu, hq, if_neg e]
set_option maxHeartbeats 1000000 in
theorem goes_any (x g : Nat) (Q : Int) (q : Nat → List Nat) (rob : Nat → Bool) (lf : Nat → Int) (st : Int) (hst : 0 ≤ st ∧ st < 900000) (t p : Nat) (hd : Bool) (ht : t < 16) (h1 : 1 ≤ p) (h2 : p ≤ 31) (hin : prioQ q t ≠ 0) (w : World) (h : TT w x g Q q rob lf st) :
    Calls Try.prog 38 #[ptr x, .int .i64 t, .int .i64 p, .bool hd] w fun e w' => e = .returned (.tuple #[]) ∧ (∃ st', st ≤ st' ∧ st' ≤ st + 8 ∧ TT w' x g Q (moveQ q t p hd) rob lf st') ∧ Only [x, g] w w' := by
  have hne := h.ne
  obtain ⟨⟨cs, hb, hC⟩, hR⟩ := h
  have k0 := (hb.cell 0).trans hC.r
  have RM := hide (remove_spec g q st (by omega) t w hR)
  have HB := hide hb
  have HC := hide hC
  have HR := hide hR
  have q1 : (0 : Int) ≤ (t : Int) := by omega
  have q2 : (t : Int) < 16 := by omega
  have HIN := hide hin
  clear hb hC hR hin
  unfold ptr at RM ⊢
  cases hd
  · have TL := hide (fun W st' (hs : 0 ≤ st' ∧ st' < 1000000) (h : RL W g (remQ q t) st') => tail_spec g (remQ q t) st' hs p t W h)
    unfold ptr at TL
    go_enter Try.func38, Try.ntmps38
    go_wp2_with (first
      | (go_at_call 53; refine RM.out.mono ?_; rintro e w2 ⟨rfl, ⟨st2, s1, s2, R2⟩, o2⟩; have k2 := ((HB.out.only o2 (by simp; exact hne)).cell 0).trans HC.out.r)
      | (go_at_call 37; refine (TL.out _ _ (by omega) R2).mono ?_; rintro e w3 ⟨rfl, ⟨st3, s3, s4, R3⟩, o3⟩; have B3 := (HB.out.only o2 (by simp; exact hne)).only o3 (by simp; exact hne); have k3 := (B3.cell (2 + t * 4 + 2)).trans (HC.out.pr t ht); have f3 := B3.frozen (2 + t * 4 + 2)))
    go_end0
    have R4 : RL (w3.setCell ⟨x, 2 + t * 4 + 2, none⟩ (.int .i64 p)) g (moveQ q t p false) st3 := RL.only (show RL w3 g (moveQ q t p false) st3 from R3) ((Only.refl [x] w3).setCell (p := ⟨x, 2 + t * 4 + 2, none⟩) (.inl (by simp)) _) (by simp; exact Ne.symm hne)
    refine ⟨rfl, ⟨st3, by omega, by omega, ⟨_, B3.set_ (2 + t * 4 + 2) (.int .i64 p), HC.out.move ht (by omega) HIN.out (moveQ_prio HR.out ht h1 h2 false R4)⟩, R4⟩, ?_⟩
    have a1 : Only [x, g] w w3 := ((Only.refl [x, g] w).trans o2 (fun k hk => .inl (by simp at hk; simp [hk]))).trans o3 (fun k hk => .inl (by simp at hk; simp [hk]))
    exact a1.setCell (p := ⟨x, 2 + t * 4 + 2, none⟩) (.inl (by simp)) _
  · have TL := hide (fun W st' (hs : 0 ≤ st' ∧ st' < 1000000) (h : RL W g (remQ q t) st') => head_spec g (remQ q t) st' hs p t W h)
    unfold ptr at TL
    go_enter Try.func38, Try.ntmps38
    go_wp2_with (first
      | (go_at_call 53; refine RM.out.mono ?_; rintro e w2 ⟨rfl, ⟨st2, s1, s2, R2⟩, o2⟩; have k2 := ((HB.out.only o2 (by simp; exact hne)).cell 0).trans HC.out.r)
      | (go_at_call 61; refine (TL.out _ _ (by omega) R2).mono ?_; rintro e w3 ⟨rfl, ⟨st3, s3, s4, R3⟩, o3⟩; have B3 := (HB.out.only o2 (by simp; exact hne)).only o3 (by simp; exact hne); have k3 := (B3.cell (2 + t * 4 + 2)).trans (HC.out.pr t ht); have f3 := B3.frozen (2 + t * 4 + 2)))
    go_end0
    have R4 : RL (w3.setCell ⟨x, 2 + t * 4 + 2, none⟩ (.int .i64 p)) g (moveQ q t p true) st3 := RL.only (show RL w3 g (moveQ q t p true) st3 from R3) ((Only.refl [x] w3).setCell (p := ⟨x, 2 + t * 4 + 2, none⟩) (.inl (by simp)) _) (by simp; exact Ne.symm hne)
    refine ⟨rfl, ⟨st3, by omega, by omega, ⟨_, B3.set_ (2 + t * 4 + 2) (.int .i64 p), HC.out.move ht (by omega) HIN.out (moveQ_prio HR.out ht h1 h2 true R4)⟩, R4⟩, ?_⟩
    have a1 : Only [x, g] w w3 := ((Only.refl [x, g] w).trans o2 (fun k hk => .inl (by simp at hk; simp [hk]))).trans o3 (fun k hk => .inl (by simp at hk; simp [hk]))
    exact a1.setCell (p := ⟨x, 2 + t * 4 + 2, none⟩) (.inl (by simp)) _
end Go.Proofs.Ytnndengdlokmbaa
