/- Script: the walk of unhead. Condition: Env. -/
import Derived.Test.YteblhklclcjonaaGreatDoorSh1
import Derived.Test.YteblhklclcjonaaGreatDoorSe5
import Derived.BigRegion
namespace Go.Proofs.YteblhklclcjonaaGreatDoor
open Go.RowKit
set_option linter.unusedVariables false
set_option linter.all false
set_option maxRecDepth 20000

theorem hnext_any (R : Nat) (r : List UInt8) (w : World) (he : Env w) (hr : r.length ≤ 4000000) (hb : Blk w R 9 #[.string (bs r)]) :
    Calls Tryz.prog 77 #[.pointer (some ⟨R, 0, none⟩)] w fun e w' => e = .returned (.string (bs (cutAt 32 r).1)) ∧ Blk w' R 9 #[.string (bs (cutAt 32 r).2.1)] ∧ Only [R] w w' := by
  have CT := cut_any (bs r) 32 (by rw [bs_size]; exact hr) w he
  rw [bs_list] at CT
  have CT := hide CT
  have k0 := hb.cell 0
  have HB := hide hb
  clear hb
  go_enter Tryz.func77, Tryz.ntmps77
  go_wp2_with (go_at_call 32; (with_reducible refine CT.out.mono ?_); rintro e w1 ⟨rfl, o1⟩; have B1 := HB.out.only o1 (by simp); have t0 := B1.cell 0; have f0 := B1.frozen 0; have O1 := hide o1; clear o1)
  go_ret
  exact ⟨rfl, B1.set_ 0 (.string (bs (cutAt 32 r).2.1)), (O1.out.mono (T := [R]) (by simp)).setCell (p := ⟨R, 0, none⟩) (.inl (by simp)) _⟩
def noP : Pg := ⟨none, 0, 0, fun _ => ⟨0, 0, 0, 0, 0⟩⟩
def hjob (P : Nat) (v : Nat → Int) : Jb := ⟨v 0, v 1, v 2, v 3, v 4, v 5, some ⟨P, 0, none⟩, 1, 1, fun _ => noP, none, 0, 0, fun _ => .empty⟩
theorem hjob_E (P : Nat) (v : Nat → Int) : jobE (hjob P v) = if numOk v then 0 else 2 := by
  cases h : numOk v with
  | true =>
    rw [numOk_iff] at h
    refine jobE_ok ?_ ?_ ?_
    · intro q hq
      have hq6 : q = 0 ∨ q = 1 ∨ q = 2 ∨ q = 3 ∨ q = 4 ∨ q = 5 ∨ q = 6 ∨ q = 7 ∨ q = 8 := by omega
      rcases hq6 with rfl | rfl | rfl | rfl | rfl | rfl | rfl | rfl | rfl
      · exact h.1 0 (by omega)
      · exact h.1 1 (by omega)
      · exact h.1 2 (by omega)
      · exact h.1 3 (by omega)
      · exact h.1 4 (by omega)
      · exact h.1 5 (by omega)
      · simp [v9, lo9, hi9, hjob]
      · simp [v9, lo9, hi9, hjob]
      · have h4 : (256 : Int) ≤ v 4 := (h.1 4 (by omega)).1
        have h8 : (v 4).tmod 8 = 0 := by rw [Int.tmod_eq_emod_of_nonneg (by omega)]; exact h.2
        simp only [v9, lo9, hi9, hjob, h8]
        omega
    · have : fb (badG (hjob P v).P) (hjob P v).pn = -1 := fb_none (fun j _ => rfl)
      omega
    · have : fb (longG (hjob P v).T) (hjob P v).tn = -1 := fb_none (fun j hj => by simp [hjob] at hj)
      omega
  | false =>
    have hn : ¬ ((∀ q, q < 6 → lo6 q ≤ v q ∧ v q ≤ hi6 q) ∧ v 4 % 8 = 0) := fun hc => by
      have := (numOk_iff v).2 hc
      rw [h] at this; cases this
    by_cases h6 : ∀ q, q < 6 → lo6 q ≤ v q ∧ v q ≤ hi6 q
    · have h8 : ¬ v 4 % 8 = 0 := fun e => hn ⟨h6, e⟩
      refine jobE_row (q := 8) (by omega) ?_
      show (v 4).tmod 8 < 0 ∨ 0 < (v 4).tmod 8
      have h4 : (256 : Int) ≤ v 4 := (h6 4 (by omega)).1
      rw [Int.tmod_eq_emod_of_nonneg (by omega)]
      omega
    · have : ∃ q, q < 6 ∧ ¬ (lo6 q ≤ v q ∧ v q ≤ hi6 q) := by
        apply Classical.byContradiction
        intro hc
        exact h6 (fun q hq => Classical.byContradiction (fun hb => hc ⟨q, hq, hb⟩))
      obtain ⟨q, hq, hb⟩ := this
      have e : v9 (hjob P v) q = v q ∧ lo9 q = lo6 q ∧ hi9 q = hi6 q := by
        have hq6 : q = 0 ∨ q = 1 ∨ q = 2 ∨ q = 3 ∨ q = 4 ∨ q = 5 := by omega
        rcases hq6 with rfl | rfl | rfl | rfl | rfl | rfl <;> exact ⟨rfl, rfl, rfl⟩
      exact jobE_row (q := q) (by omega) (by rw [e.1, e.2.1, e.2.2]; omega)
theorem load52 {w : World} {g : Nat} {a b c d e f x y : Value} (h : Blk w g 52 #[a, b, c, d, e, f, x, y]) : (loadVar 52 ⟨g, 0, none⟩).run Tryz.prog w = .ok (.agg #[a, b, c, d, e, f, x, y]) w := by
  have x0 := h.cell 0
  have x1 := h.cell 1
  have x2 := h.cell 2
  have x3 := h.cell 3
  have x4 := h.cell 4
  have x5 := h.cell 5
  have x6 := h.cell 6
  have x7 := h.cell 7
  simp [go_sem, x0, x1, x2, x3, x4, x5, x6, x7]
/-- What unhead answers. -/
def unhV (s : List UInt8) : Value := .tuple #[.agg (job8 (numN s) (.slice none 0 0) (.slice none 0 0)), .bool (hdOk s)]
theorem restN_le (s : List UInt8) : ∀ q, (restN s q).length ≤ s.length
  | 0 => (cut_le 32 s).2
  | q + 1 => Nat.le_trans (cut_le 32 (restN s q)).2 (restN_le s q)
def vq (s : List UInt8) (q : Nat) : Nat → Int := fun k => if k < q then numN s k else 0
theorem job8_set (v u : Nat → Int) (p t : Value) (q : Nat) (hq : q < 6) (x : Int) (hu : u q = x) (ho : ∀ k, k ≠ q → u k = v k) : (job8 v p t).setIfInBounds q (.int .i64 x) = job8 u p t := by
  have hq6 : q = 0 ∨ q = 1 ∨ q = 2 ∨ q = 3 ∨ q = 4 ∨ q = 5 := by omega
  have e : ∀ k, k ≠ q → v k = u k := fun k h => (ho k h).symm
  unfold job8
  rcases hq6 with rfl | rfl | rfl | rfl | rfl | rfl
  · rw [e 1 (by omega), e 2 (by omega), e 3 (by omega), e 4 (by omega), e 5 (by omega), ← hu]; rfl
  · rw [e 0 (by omega), e 2 (by omega), e 3 (by omega), e 4 (by omega), e 5 (by omega), ← hu]; rfl
  · rw [e 0 (by omega), e 1 (by omega), e 3 (by omega), e 4 (by omega), e 5 (by omega), ← hu]; rfl
  · rw [e 0 (by omega), e 1 (by omega), e 2 (by omega), e 4 (by omega), e 5 (by omega), ← hu]; rfl
  · rw [e 0 (by omega), e 1 (by omega), e 2 (by omega), e 3 (by omega), e 5 (by omega), ← hu]; rfl
  · rw [e 0 (by omega), e 1 (by omega), e 2 (by omega), e 3 (by omega), e 4 (by omega), ← hu]; rfl
set_option maxHeartbeats 8000000 in
theorem unhead_any (s : List UInt8) (hs : s.length ≤ 2000000) (w : World) (he : Env w) (hw4 : 4 ≤ w.heap.size) : Calls Tryz.prog 52 #[.string (bs s)] w fun e w' => e = .returned (unhV s) ∧ Only [] w w' := by
  have HV0 : unhV s = .tuple #[.agg (job8 (numN s) (.slice none 0 0) (.slice none 0 0)), .bool (hdOk s)] := rfl
  rw [HV0]
  obtain ⟨v, hv⟩ : ∃ v, numN s = v := ⟨_, rfl⟩
  rw [hv]
  have HVV := hide hv
  clear hv HV0
  obtain ⟨X, hX⟩ : ∃ X, w.heap.size = X := ⟨_, rfl⟩
  have O0 := hide ((Only.refl [] w).alloc (.cells #[.int .i64 0, .int .i64 0, .int .i64 0, .int .i64 0, .int .i64 0, .int .i64 0, .slice none 0 0, .slice none 0 0] 52))
  have B0 := hide (Blk.new w 52 #[.int .i64 0, .int .i64 0, .int .i64 0, .int .i64 0, .int .i64 0, .int .i64 0, .slice none 0 0, .slice none 0 0])
  rw [hX] at B0
  have HE := hide he
  have CT := fun W (o : Only [] w W) => cut_any (bs s) 32 (by rw [bs_size]; omega) W (HE.out.only o)
  rw [bs_list] at CT
  have R0 : (cutAt 32 s).2.1 = restN s 0 := rfl
  rw [R0] at CT
  obtain ⟨wd, hwd⟩ : ∃ x, (cutAt 32 s).1 = x := ⟨_, rfl⟩
  obtain ⟨mo, hmo⟩ : ∃ x, (cutAt 32 s).2.2 = x := ⟨_, rfl⟩
  rw [hwd, hmo] at CT
  have CT := hide (show ∀ W, Only [] w W → Calls Tryz.prog 32 #[.string (bs s), .string ⟨#[32]⟩] W fun e w' => e = .returned (.tuple #[.string (bs wd), .string (bs (restN s 0)), .bool mo]) ∧ Only [] W w' from CT)
  clear he R0 hwd hmo
  go_enter Tryz.func52, Tryz.ntmps52
  go_wp2_with (first
    | (go_at_call 32; (with_reducible refine (CT.out _ O0.out).mono ?_); rintro e w1 ⟨rfl, o⟩; have P1 := hide o; clear o)
    | (go_at_call 69; (with_reducible refine (numbers_any _ _).mono ?_); rintro e w2 ⟨rfl, b2, o2⟩))
  obtain ⟨Y, hY⟩ : ∃ Y, w1.heap.size = Y := ⟨_, rfl⟩
  have q1 := P1.out.size
  rw [World.size_alloc, hX, hY] at q1
  have bR := ((Blk.new w1 9 #[.string (bs (restN s 0))]).alloc (.cells #[.slice none 0 0] 67)).alloc (.cells #[.int .i64 0, .int .i64 0, .int .i64 0, .int .i64 0, .int .i64 0, .int .i64 0, .slice (some ⟨w1.heap.size + 1, 0, none⟩) 1 1, .slice none 0 0] 52)
  have bP := (Blk.new (w1.alloc (.cells #[.string (bs (restN s 0))] 9)) 67 #[.slice none 0 0]).alloc (.cells #[.int .i64 0, .int .i64 0, .int .i64 0, .int .i64 0, .int .i64 0, .int .i64 0, .slice (some ⟨w1.heap.size + 1, 0, none⟩) 1 1, .slice none 0 0] 52)
  have bJ := Blk.new ((w1.alloc (.cells #[.string (bs (restN s 0))] 9)).alloc (.cells #[.slice none 0 0] 67)) 52 #[.int .i64 0, .int .i64 0, .int .i64 0, .int .i64 0, .int .i64 0, .int .i64 0, .slice (some ⟨w1.heap.size + 1, 0, none⟩) 1 1, .slice none 0 0]
  have oA := ((P1.out.alloc (.cells #[.string (bs (restN s 0))] 9)).alloc (.cells #[.slice none 0 0] 67)).alloc (.cells #[.int .i64 0, .int .i64 0, .int .i64 0, .int .i64 0, .int .i64 0, .int .i64 0, .slice (some ⟨w1.heap.size + 1, 0, none⟩) 1 1, .slice none 0 0] 52)
  simp only [World.size_alloc, hY] at bR bP bJ b2 o2 oA
  have HB2 := hide b2
  have HBR := hide (bR.only o2 (by simp))
  have HBP := hide (bP.only o2 (by simp))
  have HBJ := hide (show Blk w2 (Y + 1 + 1) 52 (job8 (vq s 0) (.slice (some ⟨Y + 1, 0, none⟩) 1 1) (.slice none 0 0)) by
    have := bJ.only o2 (by simp)
    (try rw [hY] at this)
    exact this)
  have HBX := hide (B0.out.only (oA.trans0 o2) (by simp))
  have O2 := hide (O0.out.trans0 (oA.trans0 o2))
  have hs2 : Y + 4 ≤ w2.heap.size := by have := HB2.out.lt; omega
  simp only [hY]
  clear b2 o2 bR bP bJ oA P1 CT O0 B0
  go_loopw [23] (fun vi wr => ∃ q : Nat, q ≤ 6 ∧ vi = .int .i64 q ∧ Hid (Blk wr Y 9 #[.string (bs (restN s q))]) ∧ Hid (Blk wr (Y + 1 + 1) 52 (job8 (vq s q) (.slice (some ⟨Y + 1, 0, none⟩) 1 1) (.slice none 0 0))) ∧ Hid (Only [Y, Y + 1 + 1] w2 wr)) (fun vi _ => 6 - (intOf vi).toNat)
  case atStart => exact ⟨0, by omega, rfl, HBR, HBJ, hide (Only.refl _ _)⟩
  case round =>
    obtain ⟨q, hq, rfl, hR, hJ, hO⟩ := hrel
    have hsz := hO.out.size
    have OW := hide (O2.out.trans hO.out (fun x hx => .inr (by simp at hx; omega)))
    by_cases hq6 : q < 6
    · have c0 : wr.cell? ⟨Y + 1 + 1 + 1, q, none⟩ = some (.pointer (some ⟨Y + 1 + 1, q, none⟩)) := hO.out.keep ((HB2.out.cell q).trans (ptrs6_get (Y + 1 + 1) q hq6)) (by simp; omega)
      have j0 : (0 : Int) ≤ (q : Int) := by omega
      have j1 : (q : Int) < 6 := by omega
      have j2 : q < 6 := hq6
      have hrl := restN_le s q
      have NX := hnext_any Y (restN s q) wr (HE.out.only OW.out) (by omega) hR.out
      have hcl := cut_le 32 (restN s q)
      have AT := fun W (o : Only [] w W) => atoi_any (bs (cutAt 32 (restN s q)).1) (by rw [bs_size]; omega) W (HE.out.only o)
      rw [bs_list] at AT
      have en : atoiV (cutAt 32 (restN s q)).1 = numN s q := rfl
      have er : (cutAt 32 (restN s q)).2.1 = restN s (q + 1) := rfl
      rw [en] at AT
      rw [er] at NX
      obtain ⟨x, hx⟩ : ∃ x, numN s q = x := ⟨_, rfl⟩
      obtain ⟨S1, hS1⟩ : ∃ S, bs (cutAt 32 (restN s q)).1 = S := ⟨_, rfl⟩
      rw [hx, hS1] at AT
      rw [hS1] at NX
      have HX := hide hx
      have NX := hide NX
      have AT := hide AT
      clear en er hx hS1 hcl hrl
      go_wp2_with (first
        | (go_at_call 77; (with_reducible refine NX.out.mono ?_); rintro e w3 ⟨rfl, b3, o3⟩; have HR3 := hide b3; have OW3 := hide (OW.out.trans o3 (fun k hk => .inr (by simp at hk; omega))); have O3 := hide (hO.out.trans o3 (fun k hk => .inl (by simp at hk; simp [hk]))); have HJ3 := hide (hJ.out.only o3 (by simp; omega)); clear b3 o3)
        | (go_at_call 33; (with_reducible refine (AT.out _ OW3.out).mono ?_); rintro e w4 ⟨⟨er, rfl⟩, o4⟩; have HR4 := hide (HR3.out.only o4 (by simp)); have HJ4 := HJ3.out.only o4 (by simp); have x0 := (HJ4.cell q).trans (job8_get _ _ _ q hq6); have f0 := HJ4.frozen q; have HJH := hide HJ4; have O4 := hide (O3.out.trans0 o4); clear o4 HJ4))
      go_roundw
      case rel =>
        refine ⟨q + 1, by omega, by go_num, hide (HR4.out.far (p := ⟨Y + 1 + 1, q, none⟩) (by simp; omega) _), hide ?_, hide (O4.out.setCell (p := ⟨Y + 1 + 1, q, none⟩) (.inl (by simp)) _)⟩
        have := HJH.out.set_ q (.int .i64 x)
        rw [job8_set (vq s q) (vq s (q + 1)) _ _ q hq6 x (by unfold vq; rw [if_pos (by omega)]; exact HX.out) (fun k hk => by unfold vq; by_cases h : k < q; rw [if_pos h, if_pos (by omega)]; rw [if_neg h, if_neg (by omega)])] at this
        exact this
      case measure => simp [intOf]; omega
    · obtain rfl : q = 6 := by omega
      have eJ : job8 (vq s 6) (.slice (some ⟨Y + 1, 0, none⟩) 1 1) (.slice none 0 0) = job8 (numN s) (.slice (some ⟨Y + 1, 0, none⟩) 1 1) (.slice none 0 0) := by simp [job8, vq]
      have hJ2 := hJ.out
      rw [eJ] at hJ2
      have hPw : wr.cell? ⟨Y + 1, 0, none⟩ = some (.slice none 0 0) := hO.out.keep ((HBP.out.cell 0).trans rfl) (by simp)
      have HX := hide (HBX.out.only hO.out (by simp; omega))
      have hbv : ∀ q, q < 6 → -9223372036854775808 ≤ numN s q ∧ numN s q ≤ 9223372036854775807 := fun q _ => atoiV_bounds _
      have hOKd : hdOk s = (numOk (numN s) && decide (headB (numN s) = s)) := rfl
      have hv := HVV.out
      rw [hv] at hJ2 hbv hOKd
      have BB := hJ2
      have BX := HX.out
      unfold job8 at BB
      have CJ := checkjob_any (hjob (Y + 1) v) wr ⟨fun k hk => ⟨⟨Y + 1, 0, none⟩, rfl, by
        have : k = 0 := by have h : (hjob (Y + 1) v).pn = 1 := rfl; omega
        subst this
        exact hPw, Nat.zero_le _, fun j hj => by exact absurd hj (Nat.not_lt_zero j)⟩, (fun k hk => by exact absurd hk (Nat.not_lt_zero k)), by unfold maxLen hjob; simp, by unfold maxLen hjob; simp⟩
      rw [hjob_E] at CJ
      have CJ := (show Calls Tryz.prog 38 #[.agg #[.int .i64 (v 0), .int .i64 (v 1), .int .i64 (v 2), .int .i64 (v 3), .int .i64 (v 4), .int .i64 (v 5), .slice (some ⟨Y + 1, 0, none⟩) 1 1, .slice none 0 0]] wr fun e w' => e = .returned (.int .i64 (if numOk v then 0 else 2)) ∧ Only [] wr w' from CJ)
      have HBJ6 := hide BB
      have y0 := BB.cell 0; have y1 := BB.cell 1; have y2 := BB.cell 2; have y3 := BB.cell 3; have y4 := BB.cell 4; have y5 := BB.cell 5; have y6 := BB.cell 6; have y7 := BB.cell 7; have g6 := BB.frozen 6; have x0 := BX.cell 0; have x1 := BX.cell 1; have x2 := BX.cell 2; have x3 := BX.cell 3; have x4 := BX.cell 4; have x5 := BX.cell 5; have x6 := BX.cell 6; have x7 := BX.cell 7; have z0 := BX.frozen 0; have z1 := BX.frozen 1; have z2 := BX.frozen 2; have z3 := BX.frozen 3; have z4 := BX.frozen 4; have z5 := BX.frozen 5; have z6 := BX.frozen 6; have z7 := BX.frozen 7
      clear hJ2 hJ hR hO HBR HBJ HB2 HBP HBX hPw eJ BB BX
      cases hn : numOk v with
      | false =>
        rw [hn] at CJ
        have CJ := hide CJ
        have HOK := hide (show hdOk s = false by rw [hOKd, hn]; rfl)
        clear hOKd hn hbv hv
        go_wp2_with (go_at_call 38; (with_reducible refine CJ.out.mono ?_); rintro e w5 ⟨rfl, o5⟩; have BB := HBJ6.out.only o5 (by simp); have BX := HX.out.only o5 (by simp); have y0 := BB.cell 0; have y1 := BB.cell 1; have y2 := BB.cell 2; have y3 := BB.cell 3; have y4 := BB.cell 4; have y5 := BB.cell 5; have y6 := BB.cell 6; have y7 := BB.cell 7; have g6 := BB.frozen 6; have x0 := BX.cell 0; have x1 := BX.cell 1; have x2 := BX.cell 2; have x3 := BX.cell 3; have x4 := BX.cell 4; have x5 := BX.cell 5; have x6 := BX.cell 6; have x7 := BX.cell 7; have z0 := BX.frozen 0; have z1 := BX.frozen 1; have z2 := BX.frozen 2; have z3 := BX.frozen 3; have z4 := BX.frozen 4; have z5 := BX.frozen 5; have z6 := BX.frozen 6; have z7 := BX.frozen 7; have BXH := hide BX; have OF := hide (OW.out.trans0 o5); clear BB BX o5)
        have BF := BXH.out
        have BF := ((((((((BF.far (p := ⟨Y + 1 + 1, 6, none⟩) (by simp; omega) (.slice none 0 0)).set_ 0 (.int .i64 (v 0))).set_ 1 (.int .i64 (v 1))).set_ 2 (.int .i64 (v 2))).set_ 3 (.int .i64 (v 3))).set_ 4 (.int .i64 (v 4))).set_ 5 (.int .i64 (v 5))).set_ 6 (.slice none 0 0)).set_ 7 (.slice none 0 0)
        refine bodyPost_ret (v := .tuple #[.agg #[.int .i64 (v 0), .int .i64 (v 1), .int .i64 (v 2), .int .i64 (v 3), .int .i64 (v 4), .int .i64 (v 5), .slice none 0 0, .slice none 0 0], .bool false]) (results_cell2 Tryz.results52 rfl rfl (load52 (a := .int .i64 (v 0)) (b := .int .i64 (v 1)) (c := .int .i64 (v 2)) (d := .int .i64 (v 3)) (e := .int .i64 (v 4)) (f := .int .i64 (v 5)) (x := .slice none 0 0) (y := .slice none 0 0) (by simpa using BF))) rfl ⟨?_, ?_⟩
        · rw [HOK.out]; rfl
        · have ox := OF.out.setCell (p := ⟨Y + 1 + 1, 6, none⟩) (.inr (by simp only; omega)) (.slice none 0 0)
          exact (((((((ox.setCell (p := ⟨X, 0, none⟩) (.inr (by simp only; omega)) _).setCell (p := ⟨X, 1, none⟩) (.inr (by simp only; omega)) _).setCell (p := ⟨X, 2, none⟩) (.inr (by simp only; omega)) _).setCell (p := ⟨X, 3, none⟩) (.inr (by simp only; omega)) _).setCell (p := ⟨X, 4, none⟩) (.inr (by simp only; omega)) _).setCell (p := ⟨X, 5, none⟩) (.inr (by simp only; omega)) _).setCell (p := ⟨X, 6, none⟩) (.inr (by simp only; omega)) _).setCell (p := ⟨X, 7, none⟩) (.inr (by simp only; omega)) _
      | true =>
        rw [hn] at CJ
        have CJ := hide CJ
        have HD := hide (fun W (o : Only [] w W) => head_any v hbv (.slice (some ⟨Y + 1, 0, none⟩) 1 1) (.slice none 0 0) W (HE.out.only o))
        have heq := bs_eq (headB v) s
        have HOK := hide (show hdOk s = (headB v == s) by rw [hOKd, hn, Bool.true_and]; rw [Bool.eq_iff_iff]; simp)
        obtain ⟨S1, hS1⟩ : ∃ S, bs (headB v) = S := ⟨_, rfl⟩
        have HD2 := HD.out
        rw [hS1] at HD2 heq
        unfold job8 at HD2
        have HD := hide HD2
        clear HD2 hOKd hn hbv hv hS1
        go_wp2_with (first
          | (go_at_call 38; (with_reducible refine CJ.out.mono ?_); rintro e w5 ⟨rfl, o5⟩; have BB := HBJ6.out.only o5 (by simp); have BX := HX.out.only o5 (by simp); have y0 := BB.cell 0; have y1 := BB.cell 1; have y2 := BB.cell 2; have y3 := BB.cell 3; have y4 := BB.cell 4; have y5 := BB.cell 5; have y6 := BB.cell 6; have y7 := BB.cell 7; have g6 := BB.frozen 6; have x0 := BX.cell 0; have x1 := BX.cell 1; have x2 := BX.cell 2; have x3 := BX.cell 3; have x4 := BX.cell 4; have x5 := BX.cell 5; have x6 := BX.cell 6; have x7 := BX.cell 7; have z0 := BX.frozen 0; have z1 := BX.frozen 1; have z2 := BX.frozen 2; have z3 := BX.frozen 3; have z4 := BX.frozen 4; have z5 := BX.frozen 5; have z6 := BX.frozen 6; have z7 := BX.frozen 7; have BBH := hide BB; have BXH := hide BX; have OF := hide (OW.out.trans0 o5); clear BB BX o5)
          | (go_at_call 44; (with_reducible refine (HD.out _ OF.out).mono ?_); rintro e w6 ⟨rfl, o5⟩; have BB := BBH.out.only o5 (by simp); have BX := BXH.out.only o5 (by simp); have y0 := BB.cell 0; have y1 := BB.cell 1; have y2 := BB.cell 2; have y3 := BB.cell 3; have y4 := BB.cell 4; have y5 := BB.cell 5; have y6 := BB.cell 6; have y7 := BB.cell 7; have g6 := BB.frozen 6; have x0 := BX.cell 0; have x1 := BX.cell 1; have x2 := BX.cell 2; have x3 := BX.cell 3; have x4 := BX.cell 4; have x5 := BX.cell 5; have x6 := BX.cell 6; have x7 := BX.cell 7; have z0 := BX.frozen 0; have z1 := BX.frozen 1; have z2 := BX.frozen 2; have z3 := BX.frozen 3; have z4 := BX.frozen 4; have z5 := BX.frozen 5; have z6 := BX.frozen 6; have z7 := BX.frozen 7; have BXH := hide BX; have OF := hide (OF.out.trans0 o5); clear BB BX o5))
        have BF := BXH.out
        have BF := ((((((((BF.far (p := ⟨Y + 1 + 1, 6, none⟩) (by simp; omega) (.slice none 0 0)).set_ 0 (.int .i64 (v 0))).set_ 1 (.int .i64 (v 1))).set_ 2 (.int .i64 (v 2))).set_ 3 (.int .i64 (v 3))).set_ 4 (.int .i64 (v 4))).set_ 5 (.int .i64 (v 5))).set_ 6 (.slice none 0 0)).set_ 7 (.slice none 0 0)
        refine bodyPost_ret (v := .tuple #[.agg #[.int .i64 (v 0), .int .i64 (v 1), .int .i64 (v 2), .int .i64 (v 3), .int .i64 (v 4), .int .i64 (v 5), .slice none 0 0, .slice none 0 0], .bool (headB v == s)]) (results_cell2 Tryz.results52 rfl rfl (load52 (a := .int .i64 (v 0)) (b := .int .i64 (v 1)) (c := .int .i64 (v 2)) (d := .int .i64 (v 3)) (e := .int .i64 (v 4)) (f := .int .i64 (v 5)) (x := .slice none 0 0) (y := .slice none 0 0) (by simpa using BF))) rfl ⟨?_, ?_⟩
        · rw [HOK.out]; rfl
        · have ox := OF.out.setCell (p := ⟨Y + 1 + 1, 6, none⟩) (.inr (by simp only; omega)) (.slice none 0 0)
          exact (((((((ox.setCell (p := ⟨X, 0, none⟩) (.inr (by simp only; omega)) _).setCell (p := ⟨X, 1, none⟩) (.inr (by simp only; omega)) _).setCell (p := ⟨X, 2, none⟩) (.inr (by simp only; omega)) _).setCell (p := ⟨X, 3, none⟩) (.inr (by simp only; omega)) _).setCell (p := ⟨X, 4, none⟩) (.inr (by simp only; omega)) _).setCell (p := ⟨X, 5, none⟩) (.inr (by simp only; omega)) _).setCell (p := ⟨X, 6, none⟩) (.inr (by simp only; omega)) _).setCell (p := ⟨X, 7, none⟩) (.inr (by simp only; omega)) _
end Go.Proofs.YteblhklclcjonaaGreatDoor
