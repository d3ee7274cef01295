/- Turns: the walk of TurnsNil. No condition. -/
import Derived.Test.YtnndengdlokmbaaTuS
namespace Go.Proofs.Ytnndengdlokmbaa
open Go.RowKit
set_option linter.unusedVariables false
set_option linter.all false
set_option maxRecDepth 20000

set_option maxHeartbeats 8000000 in
theorem nil_walk (w : World) : Calls Try.prog 8 #[] w fun e w' => e = .returned (.bool true) ∧ Only [] w w' := by
  have hZ := zero60
  obtain ⟨X, hX⟩ : ∃ X, w.heap.size = X := ⟨_, rfl⟩
  obtain ⟨W0, hW0⟩ : ∃ W0, (w.alloc (.cells Z60 60)).alloc (.cells #[.pointer none, .pointer (some ⟨X, 0, none⟩)] 23) = W0 := ⟨_, rfl⟩
  have bX : Blk W0 X 60 Z60 := by rw [← hW0, ← hX]; exact (Blk.new w 60 Z60).alloc _
  have bL : Blk W0 (X + 1) 23 #[.pointer none, .pointer (some ⟨X, 0, none⟩)] := by
    rw [← hW0]
    have := Blk.new (w.alloc (.cells Z60 60)) 23 #[.pointer none, .pointer (some ⟨X, 0, none⟩)]
    rw [World.size_alloc, hX] at this
    exact this
  have O0 : Only [] w W0 := by rw [← hW0]; exact ((Only.refl [] w).alloc _).alloc _
  have HN0 := hide (show NotIs W0 none from .inl rfl)
  have HN1 := hide (show NotIs W0 (some ⟨X, 0, none⟩) from .inr ⟨X, Z60, rfl, bX, rfl⟩)
  have HL := hide bL
  have HO0 := hide O0
  clear bX bL O0
  go_enter Try.func8, Try.ntmps8
  go_wp2_with fail
  (try rw [hW0])
  (try simp only [hX, hW0])
  clear hX hW0 hZ
  go_loopw [2, 3, 4, 5, 6, 7, 8, 9, 10, 11] (fun vi _ _ _ _ _ _ _ _ _ wr => ∃ i : Nat, i ≤ 2 ∧ vi = .int .i64 i ∧ Only [] W0 wr) (fun vi _ _ _ _ _ _ _ _ _ _ => 2 - (intOf vi).toNat)
  case atStart => exact ⟨0, by omega, rfl, Only.refl _ _⟩
  case round =>
    obtain ⟨i, hi, rfl, hO⟩ := hrel
    have HO := hide hO
    by_cases hlt : i < 2
    · have j1 : (i : Int) < 2 := by omega
      have j0 : (0 : Int) ≤ (i : Int) := by omega
      obtain ⟨v, kc, hv⟩ : ∃ v : Option Addr, wr.cell? ⟨X + 1, i, none⟩ = some (.pointer v) ∧ NotIs wr v := by
        have hb := HL.out.only hO (by simp)
        match i, hlt with
        | 0, _ => exact ⟨none, (hb.cell 0).trans rfl, HN0.out.only hO⟩
        | 1, _ => exact ⟨_, (hb.cell 1).trans rfl, HN1.out.only hO⟩
      have V0 := hide hv
      have C14 := hide (no_runs v wr hv)
      have C13 := hide (no_tick v wr hv)
      have C25 := hide (no_prio v wr hv)
      have C26 := hide (no_left v wr hv)
      have C11 := hide (no_add v wr hv)
      clear hO hv
      go_wp2_with (first
        | (go_at_call 14; (with_reducible refine C14.out.mono ?_); rintro e z ⟨rfl, hw⟩; obtain rfl := hw)
        | (go_at_call 13; (with_reducible refine C13.out.mono ?_); rintro e z ⟨rfl, hw⟩; obtain rfl := hw)
        | (go_at_call 25; (with_reducible refine (C25.out _).mono ?_); rintro e z ⟨rfl, hw⟩; obtain rfl := hw)
        | (go_at_call 26; (with_reducible refine (C26.out _).mono ?_); rintro e z ⟨rfl, hw⟩; obtain rfl := hw)
        | (go_at_call 11; (with_reducible refine (C11.out _ _ _).mono ?_); rintro e z ⟨rfl, hw⟩; obtain rfl := hw)
        | (go_at_call 27; (with_reducible refine (no_leave v _ V0.out _).mono ?_); rintro e z1 ⟨rfl, o1⟩; have V1 := hide (V0.out.only o1))
        | (go_at_call 28; (with_reducible refine (no_yield v _ V1.out _).mono ?_); rintro e z2 ⟨rfl, o2⟩; have V2 := hide (V1.out.only o2))
        | (go_at_call 29; (with_reducible refine (no_put v _ V2.out _ _ _).mono ?_); rintro e z3 ⟨rfl, o3⟩; have V3 := hide (V2.out.only o3))
        | (go_at_call 30; (with_reducible refine (no_move v _ V3.out _ _).mono ?_); rintro e z4 ⟨rfl, o4⟩; have V4 := hide (V3.out.only o4))
        | (go_at_call 31; (with_reducible refine (no_lift v _ V4.out _ _).mono ?_); rintro e z5 ⟨rfl, o5⟩; have V5 := hide (V4.out.only o5))
        | (go_at_call 16; (with_reducible refine (no_of v _ V5.out _).mono ?_); rintro e z ⟨rfl, hw⟩; obtain rfl := hw)
        | (go_at_call 32; (with_reducible refine (no_len v _ V5.out).mono ?_); rintro e z ⟨rfl, hw⟩; obtain rfl := hw)
        | (go_at_call 23; (with_reducible refine (no_copy v _ V5.out).mono ?_); rintro e z ⟨rfl, hw⟩; obtain rfl := hw))
      go_roundw
      case rel => exact ⟨i + 1, by omega, by go_num, ((((HO.out.trans0 o1).trans0 o2).trans0 o3).trans0 o4).trans0 o5⟩
      case measure => simp [intOf]; omega
    · obtain rfl : i = 2 := by omega
      have kc := (HL.out.only hO (by simp)).cell 1
      have kc : wr.cell? ⟨X + 1, 1, none⟩ = some (.pointer (some ⟨X, 0, none⟩)) := kc.trans rfl
      have NW1 := hide (fun V => tnew_good 1 (by decide) (by decide) V)
      have NW2 := hide (fun V => tnew_good 2 (by decide) (by decide) V)
      unfold ptr at NW1 NW2
      have SD := hide (show decide (SameS 1 2 ⟨fun _ => [], fun _ => false, fun _ => 0⟩ ⟨fun _ => [], fun _ => false, fun _ => 0⟩) = false from decide_eq_false fun h => absurd h.2.1 (by decide))
      have NZ := hide (fun W : World => (show NotIs W none from .inl rfl))
      clear hO
      go_wp2_with (first
        | (go_at_call 10; (with_reducible refine (NW1.out _).mono ?_); rintro e z1 ⟨x1, g1, he, r1, -, -, o1⟩; unfold newE at he; subst he; have R1 := hide (show BS z1 x1 g1 1 ⟨fun _ => [], fun _ => false, fun _ => 0⟩ 0 from ⟨0, by decide, by decide, r1⟩); clear r1)
        | (go_at_call 10; (with_reducible refine (NW2.out _).mono ?_); rintro e z2 ⟨x2, g2, he, r2, -, -, o2⟩; unfold newE at he; subst he; have R2 := hide (show BS z2 x2 g2 2 ⟨fun _ => [], fun _ => false, fun _ => 0⟩ 0 from ⟨0, by decide, by decide, r2⟩); clear r2; have k2 := (o1.trans0 o2).keep0 kc; have RR := hide (R1.out.only o2 (by simp) (by simp)); have NN := hide (HN1.out.only ((HO.out.trans0 o1).trans0 o2)))
        | (go_at_call 24; (with_reducible refine (same_no none (some ⟨X, 0, none⟩) _ (NZ.out _) NN.out).mono ?_); rintro e z ⟨rfl, hw⟩; obtain rfl := hw)
        | (go_at_call 24; (with_reducible refine (same_one none x1 g1 1 _ 0 _ (NZ.out _) RR.out).mono ?_); rintro e z ⟨rfl, hw⟩; obtain rfl := hw)
        | (go_at_call 24; (with_reducible refine (same_any x1 g1 x2 g2 1 2 _ _ 0 0 _ RR.out R2.out false SD.out).mono ?_); rintro e z3 ⟨rfl, o3⟩)
        | (go_at_call 9; refine (known_any _).mono ?_; rintro e z4 ⟨rfl, o4⟩))
      go_ret
      exact ⟨rfl, ((((HO0.out.trans0 HO.out).trans0 o1).trans0 o2).trans0 o3).trans0 o4⟩
end Go.Proofs.Ytnndengdlokmbaa
