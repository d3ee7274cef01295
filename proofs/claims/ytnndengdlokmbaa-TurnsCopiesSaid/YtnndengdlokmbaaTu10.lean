/- Turns: the walks of Prio, Left, Of, Len, and of runs. Condition: the turns lie. -/
import Derived.Test.YtnndengdlokmbaaTu9
namespace Go.Proofs.Ytnndengdlokmbaa
open Go.RowKit
set_option linter.unusedVariables false
set_option linter.all false
set_option maxRecDepth 20000

def pairE (v : Int) (b : Bool) (e : Ending) : Prop := e = .returned (.tuple #[.int .i64 v, .bool b])
/-- Is a thread in a sequence? -/
def inS (s : SS) (t : Int) : Bool := decide (0 ≤ t ∧ t < 16 ∧ prioQ s.q t.toNat ≠ 0)
theorem tprio_spec (x g : Nat) (Q : Int) (s : SS) (st : Int) (t : Int) (w : World) (h : TS w x g Q s st) :
    Calls Try.prog 25 #[ptr x, .int .i64 t] w fun e w' => pairE (if inS s t then (prioQ s.q t.toNat : Int) else 0) (inS s t) e ∧ w' = w := by
  obtain ⟨⟨cs, hb, hC⟩, hR⟩ := h
  have k0 := (hb.cell 0).trans hC.r
  have IS := hide (is_any x g w k0)
  have TT := tthread_any t w
  unfold ptr at IS ⊢
  by_cases c1 : 0 ≤ t ∧ t < 16
  · obtain ⟨T, rfl⟩ : ∃ m : Nat, t = m := ⟨t.toNat, by omega⟩
    have t16 : T < 16 := by omega
    have k1 := (hb.cell (2 + T * 4)).trans (hC.inn T t16)
    have k2 := (hb.cell (2 + T * 4 + 2)).trans (hC.pr T t16)
    have d1 : (decide (0 ≤ (T : Int)) && decide ((T : Int) < 16)) = true := by simp; omega
    have hin : inS s (T : Int) = decide (prioQ s.q T ≠ 0) := by unfold inS; rw [Int.toNat_natCast]; simp; omega
    rw [hin, Int.toNat_natCast]
    rw [d1] at TT
    have TT := hide TT
    have q1 := c1.1
    have q2 := c1.2
    obtain ⟨v, hv⟩ : ∃ v, prioQ s.q T = v := ⟨_, rfl⟩
    rw [hv] at k1 k2 ⊢
    obtain ⟨bb, hbb⟩ : ∃ bb, decide (v ≠ 0) = bb := ⟨_, rfl⟩
    rw [hbb] at k1 ⊢
    clear hb hC hR c1 d1 hin hv hbb
    cases bb
    · go_enter Try.func25, Try.ntmps25
      go_wp2_with (first
        | (go_at_call 34; refine IS.out.mono ?_; rintro e w' ⟨rfl, hw⟩; obtain rfl := hw.symm; clear hw)
        | (go_at_call 35; refine TT.out.mono ?_; rintro e w' ⟨rfl, hw⟩; obtain rfl := hw.symm; clear hw))
      exact bodyPost_ret (v := .tuple #[.int .i64 0, .bool false]) (by simp [results, Try.results25, go_sem]) rfl ⟨rfl, rfl⟩
    · go_enter Try.func25, Try.ntmps25
      go_wp2_with (first
        | (go_at_call 34; refine IS.out.mono ?_; rintro e w' ⟨rfl, hw⟩; obtain rfl := hw.symm; clear hw)
        | (go_at_call 35; refine TT.out.mono ?_; rintro e w' ⟨rfl, hw⟩; obtain rfl := hw.symm; clear hw))
      exact bodyPost_ret (v := .tuple #[.int .i64 v, .bool true]) (by simp [results, Try.results25, go_sem]) rfl ⟨rfl, rfl⟩
  · have d1 : (decide (0 ≤ t) && decide (t < 16)) = false := by simp; omega
    have hin : inS s t = false := by unfold inS; simp; omega
    rw [hin]
    rw [d1] at TT
    have TT := hide TT
    clear hb hC hR c1 d1 hin
    go_enter Try.func25, Try.ntmps25
    go_wp2_with (first
      | (go_at_call 34; refine IS.out.mono ?_; rintro e w' ⟨rfl, hw⟩; obtain rfl := hw.symm; clear hw)
      | (go_at_call 35; refine TT.out.mono ?_; rintro e w' ⟨rfl, hw⟩; obtain rfl := hw.symm; clear hw))
    exact bodyPost_ret (v := .tuple #[.int .i64 0, .bool false]) (by simp [results, Try.results25, go_sem]) rfl ⟨rfl, rfl⟩
theorem tleft_spec (x g : Nat) (Q : Int) (s : SS) (st : Int) (t : Int) (w : World) (h : TS w x g Q s st) :
    Calls Try.prog 26 #[ptr x, .int .i64 t] w fun e w' => pairE (if inS s t then s.lf t.toNat else 0) (inS s t) e ∧ w' = w := by
  obtain ⟨⟨cs, hb, hC⟩, hR⟩ := h
  have k0 := (hb.cell 0).trans hC.r
  have IS := hide (is_any x g w k0)
  have TT := tthread_any t w
  unfold ptr at IS ⊢
  by_cases c1 : 0 ≤ t ∧ t < 16
  · obtain ⟨T, rfl⟩ : ∃ m : Nat, t = m := ⟨t.toNat, by omega⟩
    have t16 : T < 16 := by omega
    have k1 := (hb.cell (2 + T * 4)).trans (hC.inn T t16)
    have k2 := (hb.cell (2 + T * 4 + 3)).trans (hC.lf T t16)
    have d1 : (decide (0 ≤ (T : Int)) && decide ((T : Int) < 16)) = true := by simp; omega
    have hin : inS s (T : Int) = decide (prioQ s.q T ≠ 0) := by unfold inS; rw [Int.toNat_natCast]; simp; omega
    rw [hin, Int.toNat_natCast]
    rw [d1] at TT
    have TT := hide TT
    have q1 := c1.1
    have q2 := c1.2
    obtain ⟨v, hv⟩ : ∃ v, s.lf T = v := ⟨_, rfl⟩
    rw [hv] at k2 ⊢
    obtain ⟨bb, hbb⟩ : ∃ bb, decide (prioQ s.q T ≠ 0) = bb := ⟨_, rfl⟩
    rw [hbb] at k1 ⊢
    clear hb hC hR c1 d1 hin hv hbb
    cases bb
    · go_enter Try.func26, Try.ntmps26
      go_wp2_with (first
        | (go_at_call 34; refine IS.out.mono ?_; rintro e w' ⟨rfl, hw⟩; obtain rfl := hw.symm; clear hw)
        | (go_at_call 35; refine TT.out.mono ?_; rintro e w' ⟨rfl, hw⟩; obtain rfl := hw.symm; clear hw))
      exact bodyPost_ret (v := .tuple #[.int .i64 0, .bool false]) (by simp [results, Try.results26, go_sem]) rfl ⟨rfl, rfl⟩
    · go_enter Try.func26, Try.ntmps26
      go_wp2_with (first
        | (go_at_call 34; refine IS.out.mono ?_; rintro e w' ⟨rfl, hw⟩; obtain rfl := hw.symm; clear hw)
        | (go_at_call 35; refine TT.out.mono ?_; rintro e w' ⟨rfl, hw⟩; obtain rfl := hw.symm; clear hw))
      exact bodyPost_ret (v := .tuple #[.int .i64 v, .bool true]) (by simp [results, Try.results26, go_sem]) rfl ⟨rfl, rfl⟩
  · have d1 : (decide (0 ≤ t) && decide (t < 16)) = false := by simp; omega
    have hin : inS s t = false := by unfold inS; simp; omega
    rw [hin]
    rw [d1] at TT
    have TT := hide TT
    clear hb hC hR c1 d1 hin
    go_enter Try.func26, Try.ntmps26
    go_wp2_with (first
      | (go_at_call 34; refine IS.out.mono ?_; rintro e w' ⟨rfl, hw⟩; obtain rfl := hw.symm; clear hw)
      | (go_at_call 35; refine TT.out.mono ?_; rintro e w' ⟨rfl, hw⟩; obtain rfl := hw.symm; clear hw))
    exact bodyPost_ret (v := .tuple #[.int .i64 0, .bool false]) (by simp [results, Try.results26, go_sem]) rfl ⟨rfl, rfl⟩
theorem tlen_spec (x g : Nat) (Q : Int) (s : SS) (st : Int) (w : World) (h : TS w x g Q s st) :
    Calls Try.prog 32 #[ptr x] w fun e w' => e = .returned (.int .i64 (allQ s.q).length) ∧ Only [] w w' := by
  obtain ⟨⟨cs, hb, hC⟩, hR⟩ := h
  have k0 := (hb.cell 0).trans hC.r
  have IS := hide (is_any x g w k0)
  have LN := hide (len_any g s.q st (by have := hR.len; omega) w hR)
  unfold ptr at IS LN ⊢
  clear hb hC hR
  go_enter Try.func32, Try.ntmps32
  go_wp2_with (first
    | (go_at_call 34; refine IS.out.mono ?_; rintro e w' ⟨rfl, hw⟩; obtain rfl := hw.symm; clear hw)
    | (go_at_call 58; refine LN.out.mono ?_; rintro e w2 ⟨rfl, o2⟩))
  go_ret
  exact ⟨rfl, o2⟩
/-- What Of tells. -/
def ofL (s : SS) (p : Int) : List Nat := if 1 ≤ p ∧ p ≤ 31 then s.q p.toNat else []
theorem of_spec (x g : Nat) (Q : Int) (s : SS) (st : Int) (p : Int) (w : World) (h : TS w x g Q s st) :
    Calls Try.prog 16 #[ptr x, .int .i64 p] w fun e w' => (∃ A c, e = .returned (.slice A (ofL s p).length c) ∧ w'.ownsRow w.heap.size 3 1 (.slice A (ofL s p).length c) (ofL s p).length (NV (ofL s p))) ∧ Only [] w w' := by
  obtain ⟨⟨cs, hb, hC⟩, hR⟩ := h
  have k0 := (hb.cell 0).trans hC.r
  have IS := hide (is_any x g w k0)
  have PP := priority_any p w
  unfold ofL
  by_cases c1 : 1 ≤ p ∧ p ≤ 31
  · rw [if_pos c1]
    obtain ⟨P, rfl⟩ : ∃ m : Nat, p = m := ⟨p.toNat, by omega⟩
    have d1 : (decide (1 ≤ (P : Int)) && decide ((P : Int) ≤ 31)) = true := by simp; omega
    rw [d1] at PP
    have PP := hide PP
    have LI := list_any g P s.q st (by have := hR.len; omega) w hR
    rw [selQ_all s.q P (by omega)] at LI
    have LI := hide LI
    rw [Int.toNat_natCast]
    unfold ptr at IS LI ⊢
    clear hb hC hR c1 d1
    go_enter Try.func16, Try.ntmps16
    go_wp2_with (first
      | (go_at_call 34; refine IS.out.mono ?_; rintro e w' ⟨rfl, hw⟩; obtain rfl := hw.symm; clear hw)
      | (go_at_call 36; refine PP.out.mono ?_; rintro e w' ⟨rfl, hw⟩; obtain rfl := hw.symm; clear hw)
      | (go_at_call 40; refine LI.out.mono ?_; rintro e w2 ⟨⟨A, c, rfl, own⟩, o2⟩; have HW := hide own; clear own))
    go_ret
    exact ⟨⟨A, c, rfl, HW.out⟩, o2⟩
  · rw [if_neg c1]
    have d1 : (decide (1 ≤ p) && decide (p ≤ 31)) = false := by simp; omega
    rw [d1] at PP
    have PP := hide PP
    unfold ptr at IS ⊢
    clear hb hC hR c1 d1
    go_enter Try.func16, Try.ntmps16
    go_wp2_with (first
      | (go_at_call 34; refine IS.out.mono ?_; rintro e w' ⟨rfl, hw⟩; obtain rfl := hw.symm; clear hw)
      | (go_at_call 36; refine PP.out.mono ?_; rintro e w' ⟨rfl, hw⟩; obtain rfl := hw.symm; clear hw))
    go_ret
    exact ⟨⟨none, 0, rfl, World.ownsRow_nil ..⟩, Only.refl _ _⟩
end Go.Proofs.Ytnndengdlokmbaa
