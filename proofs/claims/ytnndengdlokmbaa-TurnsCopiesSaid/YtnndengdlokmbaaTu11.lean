/- Turns: Add said of what turns tell; the law's runs. Condition: the turns lie. -/
import Derived.Test.YtnndengdlokmbaaTu10
namespace Go.Proofs.Ytnndengdlokmbaa
open Go.RowKit
set_option linter.unusedVariables false
set_option linter.all false
set_option maxRecDepth 20000

def addC (s : SS) (t p : Int) : Int := if ¬ mayT t p then 2 else if prioQ s.q t.toNat ≠ 0 then 7 else 0
def sAdd (Q : Int) (s : SS) (t p : Int) (rb : Bool) : SS := if addC s t p = 0 then ⟨putTQ s.q p t, updb s.rob t.toNat rb, upd s.lf t.toNat Q⟩ else s
theorem add_spec (x g : Nat) (Q : Int) (s : SS) (st : Int) (hst : 0 ≤ st ∧ st < 800000) (t p : Int) (rb : Bool) (w : World) (h : TS w x g Q s st) :
    Calls Try.prog 11 #[.pointer (some ⟨x, 0, none⟩), .int .i64 t, .int .i64 p, .bool rb] w (OpE w x g Q st (addC s t p) (sAdd Q s t p rb)) := by
  have hc := h.cells
  have keep : ∀ c : Int, addC s t p = c → c ≠ 0 → sAdd Q s t p rb = s := fun c hc hz => by unfold sAdd; rw [if_neg (by rw [hc]; exact hz)]
  by_cases hm : mayT t p
  · have hm' := hm
    obtain ⟨t1, t2, p1', p2'⟩ := hm'
    obtain ⟨T, rfl⟩ : ∃ m : Nat, t = m := ⟨t.toNat, by omega⟩
    obtain ⟨P, rfl⟩ : ∃ m : Nat, p = m := ⟨p.toNat, by omega⟩
    have t16 : T < 16 := by omega
    have k1 := hc.2 T t16
    by_cases hin : prioQ s.q T = 0
    · have hcc : addC s T P = 0 := by unfold addC; rw [if_neg (by simpa using hm), if_neg (by rw [Int.toNat_natCast]; simpa using hin)]
      refine (add_good x g Q s.q s.rob s.lf st (by omega) T P rb t16 (by omega) (by omega) hin w h).mono ?_
      rintro e w' ⟨rfl, hP, o⟩
      refine ⟨by rw [hcc], ?_, o⟩
      unfold sAdd
      rw [if_pos hcc, Int.toNat_natCast]
      exact hP
    · have hcc : addC s T P = 7 := by unfold addC; rw [if_neg (by simpa using hm), if_pos (by rw [Int.toNat_natCast]; exact hin)]
      rw [decide_eq_true hin] at k1
      refine (add_state x g T P rb t16 (by omega) (by omega) w hc.1 k1).mono ?_
      rintro e w' ⟨rfl, hw⟩
      obtain rfl := hw.symm
      refine ⟨by rw [hcc], ⟨st, by omega, by omega, ?_⟩, Only.refl _ _⟩
      rw [keep 7 hcc (by decide)]
      exact h
  · have hcc : addC s t p = 2 := by unfold addC; rw [if_pos hm]
    refine (add_arg x g t p rb w hc.1 hm).mono ?_
    rintro e w' ⟨rfl, hw⟩
    obtain rfl := hw.symm
    refine ⟨by rw [hcc], ⟨st, by omega, by omega, ?_⟩, Only.refl _ _⟩
    rw [keep 2 hcc (by decide)]
    exact h
theorem runsT_spec (x g : Nat) (Q : Int) (s : SS) (st : Int) (hst : 0 ≤ st ∧ st < 800000) (t : Int) (w : World) (h : TS w x g Q s st) :
    Calls Try.prog 12 #[.pointer (some ⟨x, 0, none⟩), .int .i64 t] w fun e w' => e = .returned (.bool (decide (allQ s.q ≠ []) && decide (firstT s.q = t))) ∧ (∃ st', st ≤ st' ∧ st' ≤ st + 1 ∧ TS w' x g Q s st') ∧ Only [g] w w' := by
  have RU := runs_any x g Q s.q s.rob s.lf st (by omega) w h
  obtain ⟨bz, hbz⟩ : ∃ bz, decide (allQ s.q ≠ []) = bz := ⟨_, rfl⟩
  obtain ⟨fT, hfT⟩ : ∃ fT, firstT s.q = fT := ⟨_, rfl⟩
  rw [hbz, hfT] at RU ⊢
  have RU := hide RU
  clear hbz hfT h
  unfold ptr at RU
  by_cases he : fT = t
  · have g1 : (fT == t) = true := by simp [he]
    rw [decide_eq_true he]
    clear he
    cases bz
    all_goals (
      go_enter Try.func12, Try.ntmps12
      go_wp2_with (first
        | (go_at_call 14; refine RU.out.mono ?_; rintro e w2 ⟨he, hS, o2⟩; unfold firstE at he; subst he; have HS := hide hS; clear hS))
      go_ret
      exact ⟨rfl, HS.out, o2⟩)
  · have g1 : (fT == t) = false := by simp [he]
    rw [decide_eq_false he]
    clear he
    cases bz
    all_goals (
      go_enter Try.func12, Try.ntmps12
      go_wp2_with (first
        | (go_at_call 14; refine RU.out.mono ?_; rintro e w2 ⟨he, hS, o2⟩; unfold firstE at he; subst he; have HS := hide hS; clear hS))
      go_ret
      exact ⟨rfl, HS.out, o2⟩)
end Go.Proofs.Ytnndengdlokmbaa
