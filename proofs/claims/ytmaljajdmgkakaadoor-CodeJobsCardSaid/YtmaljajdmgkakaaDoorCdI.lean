/- Code, the document's: the walk of Step. No condition. -/
import Derived.Test.YtmaljajdmgkakaaDoorCdE
import Derived.Test.YtmaljajdmgkakaaDoorCdH
import Derived.BigRegion
namespace Go.Proofs.YtmaljajdmgkakaaDoor
open Go.RowKit
set_option linter.unusedVariables false
set_option linter.all false
set_option maxRecDepth 20000

def nB (d a b : Bool) : Nat → Bool
  | 0 => d
  | 1 => a
  | _ => b
def lB (d a b : Int) : Nat → Int
  | 0 => d
  | 1 => a
  | _ => b
def okF (o : Bool) (n : Nat → Bool) (l : Nat → Int) : Nat → Bool
  | 0 => o
  | q + 1 => okF o n l q && inReg (n q) (l q)
theorem nB_get (d a b : Bool) : ∀ q, q < 3 → (#[.bool d, .bool a, .bool b] : Array Value)[q]? = some (.bool (nB d a b q)) := by
  intro q hq
  rcases (by omega : q = 0 ∨ q = 1 ∨ q = 2) with h | h | h
  all_goals (subst h; rfl)
theorem lB_get (d a b : Int) : ∀ q, q < 3 → (#[.int .i64 d, .int .i64 a, .int .i64 b] : Array Value)[q]? = some (.int .i64 (lB d a b q)) := by
  intro q hq
  rcases (by omega : q = 0 ∨ q = 1 ∨ q = 2) with h | h | h
  all_goals (subst h; rfl)
theorem okF_three (o d a b : Bool) (x y z : Int) : okF o (nB d a b) (lB x y z) 3 = (o && (inReg d x && (inReg a y && inReg b z))) := by
  simp [okF, nB, lB, Bool.and_assoc]
set_option maxHeartbeats 8000000 in
theorem rstep_bad (o d a b imm : Int) (sd sa sb so : Bool) (m : Int) (NM : ∀ W, Calls Tryd.prog 35 #[.int .i64 o] W fun e w' => e = .returned (.tuple #[.agg #[.bool sd, .bool sa, .bool sb], .int .i64 m, .bool so]) ∧ Only [] W w') (hF : okF so (nB sd sa sb) (lB d a b) 3 = false) (PGF : ∀ p R, stepV ⟨o, d, a, b, imm⟩ p R = .tuple #[.agg (stV p R), .bool false]) (p : Int) (R : Nat → Int) (w : World) : Calls Tryd.prog 15 #[.agg #[.int .i64 (o), .int .i64 d, .int .i64 a, .int .i64 b, .int .i64 imm], .agg (stV p R)] w fun e w' => e = .returned (stepV ⟨o, d, a, b, imm⟩ p R) ∧ Only [] w w' := by
  have PGF := hide (PGF p R)
  have NM := hide NM
  have HF := hide hF
  clear hF
  obtain ⟨X, hX⟩ : ∃ X, w.heap.size = X := ⟨_, rfl⟩
  obtain ⟨W, hW⟩ : ∃ W, ((w.alloc (.cells #[.int .i64 (o), .int .i64 d, .int .i64 a, .int .i64 b, .int .i64 imm] 24)).alloc (.cells (stV p R) 39)).alloc (.cells #[.int .i64 0, .int .i64 0, .int .i64 0, .int .i64 0, .int .i64 0, .int .i64 0, .int .i64 0, .int .i64 0, .int .i64 0] 39) = W := ⟨_, rfl⟩
  have oW : Only [] w W := by rw [← hW]; exact (((Only.refl [] w).alloc _).alloc _).alloc _
  have bI : Blk W X 24 #[.int .i64 (o), .int .i64 d, .int .i64 a, .int .i64 b, .int .i64 imm] := by rw [← hW, ← hX]; exact ((Blk.new w 24 _).alloc _).alloc _
  have bZ : Blk W (X + 1) 39 (stV p R) := by
    have := (Blk.new (w.alloc (.cells #[.int .i64 (o), .int .i64 d, .int .i64 a, .int .i64 b, .int .i64 imm] 24)) 39 (stV p R)).alloc (.cells #[.int .i64 0, .int .i64 0, .int .i64 0, .int .i64 0, .int .i64 0, .int .i64 0, .int .i64 0, .int .i64 0, .int .i64 0] 39)
    rw [World.size_alloc, hX, hW] at this
    exact this
  have bX : Blk W (X + 1 + 1) 39 #[.int .i64 0, .int .i64 0, .int .i64 0, .int .i64 0, .int .i64 0, .int .i64 0, .int .i64 0, .int .i64 0, .int .i64 0] := by
    have := Blk.new ((w.alloc (.cells #[.int .i64 (o), .int .i64 d, .int .i64 a, .int .i64 b, .int .i64 imm] 24)).alloc (.cells (stV p R) 39)) 39 #[.int .i64 0, .int .i64 0, .int .i64 0, .int .i64 0, .int .i64 0, .int .i64 0, .int .i64 0, .int .i64 0, .int .i64 0]
    rw [World.size_alloc, World.size_alloc, hX, hW] at this
    exact this
  have t0 : W.cell? ⟨X, 0, none⟩ = some (.int .i64 (o)) := bI.cell 0
  rw [← hW, ← hX] at t0
  unfold stV at t0 hW
  have HX := hide hX
  have HWX := hide (show X + 3 ≤ W.heap.size by have := bX.lt; omega)
  have OW := hide oW
  have BI := hide bI
  have BZ := hide bZ
  have BX := hide bX
  have HW := hide hW
  clear oW bI bZ bX hX hW
  have hst : stV p R = #[.int .i64 p, .int .i64 (R 0), .int .i64 (R 1), .int .i64 (R 2), .int .i64 (R 3), .int .i64 (R 4), .int .i64 (R 5), .int .i64 (R 6), .int .i64 (R 7)] := rfl
  rw [hst]
  clear hst
  go_enter Tryd.func15, Tryd.ntmps15
  go_wp2_with (go_at_call 35; rw [HX.out, HW.out]; (with_reducible refine (NM.out _).mono ?_); rintro e u1 ⟨rfl, o1⟩; have o2 := o1.alloc (.cells #[.bool sd, .bool sa, .bool sb] 57); have b2 := BI.out.only o2 (by simp); have i1 := b2.cell 1; have i2 := b2.cell 2; have i3 := b2.cell 3; have O1 := hide o1; clear t0 o1 o2 b2)
  clear i1 i2 i3
  obtain ⟨Y, hY⟩ : ∃ Y, u1.heap.size = Y := ⟨_, rfl⟩
  have bN := (Blk.new u1 57 #[.bool sd, .bool sa, .bool sb]).alloc (.cells #[.int .i64 d, .int .i64 a, .int .i64 b] 59)
  have bL := Blk.new (u1.alloc (.cells #[.bool sd, .bool sa, .bool sb] 57)) 59 #[.int .i64 d, .int .i64 a, .int .i64 b]
  rw [World.size_alloc, hY] at bL
  rw [hY] at bN ⊢
  have o3 := (O1.out.alloc (.cells #[.bool sd, .bool sa, .bool sb] 57)).alloc (.cells #[.int .i64 d, .int .i64 a, .int .i64 b] 59)
  obtain ⟨U, hU⟩ : ∃ U, (u1.alloc (.cells #[.bool sd, .bool sa, .bool sb] 57)).alloc (.cells #[.int .i64 d, .int .i64 a, .int .i64 b] 59) = U := ⟨_, rfl⟩
  rw [hU] at bN bL o3 ⊢
  have B3I := BI.out.only o3 (by simp)
  have B3Z := hide (BZ.out.only o3 (by simp))
  have B3X := hide (BX.out.only o3 (by simp))
  have OU := hide (OW.out.trans0 o3)
  have CN := hide (fun q (hq : q < 3) => (bN.cell q).trans (nB_get sd sa sb q hq))
  have CL := hide (fun q (hq : q < 3) => (bL.cell q).trans (lB_get d a b q hq))
  have HUX := hide (show X + 3 ≤ U.heap.size by have := o3.size; have := HWX.out; omega)
  have HB3I := hide B3I
  clear hU hY bN bL o3 O1 BI BZ BX OW NM HW B3I
  go_loopw [8, 10] (fun vo vi wr => ∃ q : Nat, q ≤ 3 ∧ vi = .int .i64 q ∧ vo = .bool (okF so (nB sd sa sb) (lB d a b) q) ∧ U = wr) (fun _ vi _ => 3 - (intOf vi).toNat)
  case atStart => exact ⟨0, by omega, rfl, rfl, (by first | rfl | trivial)⟩
  case round =>
    obtain ⟨q, hq, rfl, rfl, hw⟩ := hrel
    obtain rfl := hw
    by_cases hq3 : q < 3
    · have cN := CN.out q hq3
      have cL := CL.out q hq3
      have hst : okF so (nB sd sa sb) (lB d a b) (q + 1) = (okF so (nB sd sa sb) (lB d a b) q && inReg ((nB sd sa sb) q) ((lB d a b) q)) := rfl
      obtain ⟨b0, hb0⟩ : ∃ b0, okF so (nB sd sa sb) (lB d a b) q = b0 := ⟨_, rfl⟩
      obtain ⟨nq, hnq⟩ : ∃ nq, (nB sd sa sb) q = nq := ⟨_, rfl⟩
      obtain ⟨lq, hlq⟩ : ∃ lq, (lB d a b) q = lq := ⟨_, rfl⟩
      rw [hb0, hnq, hlq] at hst
      rw [hnq] at cN
      rw [hlq] at cL
      rw [hb0]
      have HST := hide hst
      have j0 : (q : Int) < 3 := by omega
      have j1 : (0 : Int) ≤ (q : Int) := by omega
      clear hb0 hnq hlq hst
      cases b0
      · go_wp2_with fail
        go_roundw
        case rel => exact ⟨q + 1, by omega, by go_num, by rw [HST.out]; rfl, (by first | rfl | trivial)⟩
        case measure => simp [intOf]; omega
      cases nq
      · go_wp2_with fail
        go_roundw
        case rel => exact ⟨q + 1, by omega, by go_num, by rw [HST.out]; rfl, (by first | rfl | trivial)⟩
        case measure => simp [intOf]; omega
      by_cases h0 : 0 ≤ lq
      · by_cases h7 : lq ≤ 7
        · have e0 : decide (0 ≤ lq) = true := decide_eq_true h0
          have e7 : decide (lq ≤ 7) = true := decide_eq_true h7
          go_wp2_with fail
          go_roundw
          case rel => exact ⟨q + 1, by omega, by go_num, by rw [HST.out]; simp [inReg, h0, h7], (by first | rfl | trivial)⟩
          case measure => simp [intOf]; omega
        · have e0 : decide (0 ≤ lq) = true := decide_eq_true h0
          have e7 : decide (lq ≤ 7) = false := decide_eq_false h7
          go_wp2_with fail
          go_roundw
          case rel => exact ⟨q + 1, by omega, by go_num, by rw [HST.out]; simp [inReg, h0, h7], (by first | rfl | trivial)⟩
          case measure => simp [intOf]; omega
      · have e0 : decide (0 ≤ lq) = false := decide_eq_false h0
        go_wp2_with fail
        go_roundw
        case rel => exact ⟨q + 1, by omega, by go_num, by rw [HST.out]; simp [inReg, h0], (by first | rfl | trivial)⟩
        case measure => simp [intOf]; omega
    · obtain rfl : q = 3 := by omega
      rw [HF.out]
      clear CN CL HF
      have z0 : (U).cell? ⟨X + 1, 0, none⟩ = some (.int .i64 p) := B3Z.out.cell 0
      have z1 : (U).cell? ⟨X + 1, 1, none⟩ = some (.int .i64 (R 0)) := B3Z.out.cell 1
      have z2 : (U).cell? ⟨X + 1, 2, none⟩ = some (.int .i64 (R 1)) := B3Z.out.cell 2
      have z3 : (U).cell? ⟨X + 1, 3, none⟩ = some (.int .i64 (R 2)) := B3Z.out.cell 3
      have z4 : (U).cell? ⟨X + 1, 4, none⟩ = some (.int .i64 (R 3)) := B3Z.out.cell 4
      have z5 : (U).cell? ⟨X + 1, 5, none⟩ = some (.int .i64 (R 4)) := B3Z.out.cell 5
      have z6 : (U).cell? ⟨X + 1, 6, none⟩ = some (.int .i64 (R 5)) := B3Z.out.cell 6
      have z7 : (U).cell? ⟨X + 1, 7, none⟩ = some (.int .i64 (R 6)) := B3Z.out.cell 7
      have z8 : (U).cell? ⟨X + 1, 8, none⟩ = some (.int .i64 (R 7)) := B3Z.out.cell 8
      have x0 : (U).cell? ⟨X + 1 + 1, 0, none⟩ = some (.int .i64 0) := B3X.out.cell 0
      have y0 := B3X.out.frozen 0
      have x1 : (U).cell? ⟨X + 1 + 1, 1, none⟩ = some (.int .i64 0) := B3X.out.cell 1
      have y1 := B3X.out.frozen 1
      have x2 : (U).cell? ⟨X + 1 + 1, 2, none⟩ = some (.int .i64 0) := B3X.out.cell 2
      have y2 := B3X.out.frozen 2
      have x3 : (U).cell? ⟨X + 1 + 1, 3, none⟩ = some (.int .i64 0) := B3X.out.cell 3
      have y3 := B3X.out.frozen 3
      have x4 : (U).cell? ⟨X + 1 + 1, 4, none⟩ = some (.int .i64 0) := B3X.out.cell 4
      have y4 := B3X.out.frozen 4
      have x5 : (U).cell? ⟨X + 1 + 1, 5, none⟩ = some (.int .i64 0) := B3X.out.cell 5
      have y5 := B3X.out.frozen 5
      have x6 : (U).cell? ⟨X + 1 + 1, 6, none⟩ = some (.int .i64 0) := B3X.out.cell 6
      have y6 := B3X.out.frozen 6
      have x7 : (U).cell? ⟨X + 1 + 1, 7, none⟩ = some (.int .i64 0) := B3X.out.cell 7
      have y7 := B3X.out.frozen 7
      have x8 : (U).cell? ⟨X + 1 + 1, 8, none⟩ = some (.int .i64 0) := B3X.out.cell 8
      have y8 := B3X.out.frozen 8
      go_wp2_with fail
      rw [PGF.out]
      have BFF := (((((((((B3X.out).set_ 0 (.int .i64 p)).set_ 1 (.int .i64 (R 0))).set_ 2 (.int .i64 (R 1))).set_ 3 (.int .i64 (R 2))).set_ 4 (.int .i64 (R 3))).set_ 5 (.int .i64 (R 4))).set_ 6 (.int .i64 (R 5))).set_ 7 (.int .i64 (R 6))).set_ 8 (.int .i64 (R 7))
      refine bodyPost_ret (v := .tuple #[.agg (stV p (R)), .bool false]) (results_cell2b Tryd.results15 rfl rfl (load39 (p := p) (R := R) (by simpa [stV] using BFF))) rfl ⟨rfl, ?_⟩
      exact (((((((((((OU.out.mono (T := [X + 1 + 1]) (by simp))).setCell (p := ⟨X + 1 + 1, 0, none⟩) (.inl (by simp)) _).setCell (p := ⟨X + 1 + 1, 1, none⟩) (.inl (by simp)) _).setCell (p := ⟨X + 1 + 1, 2, none⟩) (.inl (by simp)) _).setCell (p := ⟨X + 1 + 1, 3, none⟩) (.inl (by simp)) _).setCell (p := ⟨X + 1 + 1, 4, none⟩) (.inl (by simp)) _).setCell (p := ⟨X + 1 + 1, 5, none⟩) (.inl (by simp)) _).setCell (p := ⟨X + 1 + 1, 6, none⟩) (.inl (by simp)) _).setCell (p := ⟨X + 1 + 1, 7, none⟩) (.inl (by simp)) _).setCell (p := ⟨X + 1 + 1, 8, none⟩) (.inl (by simp)) _).mono (fun x hx => .inr (by have := HX.out; simp at hx; omega))
set_option maxHeartbeats 8000000 in
theorem rstep0 (d : Int) (a : Int) (b : Int) (imm : Int) (p : Int) (R : Nat → Int) (w : World) : Calls Tryd.prog 15 #[.agg #[.int .i64 (0), .int .i64 d, .int .i64 a, .int .i64 b, .int .i64 imm], .agg (stV p R)] w fun e w' => e = .returned (stepV ⟨0, d, a, b, imm⟩ p R) ∧ Only [] w w' := by
  have PGF := hide (show stepV ⟨0, d, a, b, imm⟩ p R = .tuple #[.agg (stV p R), .bool false] from by
    have h1 : stepOk ⟨0, d, a, b, imm⟩ = false := by unfold stepOk; simp
    unfold stepV
    rw [h1]
    rfl)
  have NM := hide (fun W => show Calls Tryd.prog 35 #[.int .i64 0] W fun e w' => e = .returned (.tuple #[.agg #[.bool false, .bool false, .bool false], .int .i64 (0), .bool true]) ∧ Only [] W w' from named_ok 0 (by decide) W)
  have HF := hide (show okF true (nB false false false) (lB d a b) 3 = true by rw [okF_three]; unfold inReg; simp)
  obtain ⟨X, hX⟩ : ∃ X, w.heap.size = X := ⟨_, rfl⟩
  obtain ⟨W, hW⟩ : ∃ W, ((w.alloc (.cells #[.int .i64 (0), .int .i64 d, .int .i64 a, .int .i64 b, .int .i64 imm] 24)).alloc (.cells (stV p R) 39)).alloc (.cells #[.int .i64 0, .int .i64 0, .int .i64 0, .int .i64 0, .int .i64 0, .int .i64 0, .int .i64 0, .int .i64 0, .int .i64 0] 39) = W := ⟨_, rfl⟩
  have oW : Only [] w W := by rw [← hW]; exact (((Only.refl [] w).alloc _).alloc _).alloc _
  have bI : Blk W X 24 #[.int .i64 (0), .int .i64 d, .int .i64 a, .int .i64 b, .int .i64 imm] := by rw [← hW, ← hX]; exact ((Blk.new w 24 _).alloc _).alloc _
  have bZ : Blk W (X + 1) 39 (stV p R) := by
    have := (Blk.new (w.alloc (.cells #[.int .i64 (0), .int .i64 d, .int .i64 a, .int .i64 b, .int .i64 imm] 24)) 39 (stV p R)).alloc (.cells #[.int .i64 0, .int .i64 0, .int .i64 0, .int .i64 0, .int .i64 0, .int .i64 0, .int .i64 0, .int .i64 0, .int .i64 0] 39)
    rw [World.size_alloc, hX, hW] at this
    exact this
  have bX : Blk W (X + 1 + 1) 39 #[.int .i64 0, .int .i64 0, .int .i64 0, .int .i64 0, .int .i64 0, .int .i64 0, .int .i64 0, .int .i64 0, .int .i64 0] := by
    have := Blk.new ((w.alloc (.cells #[.int .i64 (0), .int .i64 d, .int .i64 a, .int .i64 b, .int .i64 imm] 24)).alloc (.cells (stV p R) 39)) 39 #[.int .i64 0, .int .i64 0, .int .i64 0, .int .i64 0, .int .i64 0, .int .i64 0, .int .i64 0, .int .i64 0, .int .i64 0]
    rw [World.size_alloc, World.size_alloc, hX, hW] at this
    exact this
  have t0 : W.cell? ⟨X, 0, none⟩ = some (.int .i64 (0)) := bI.cell 0
  rw [← hW, ← hX] at t0
  unfold stV at t0 hW
  have HX := hide hX
  have HWX := hide (show X + 3 ≤ W.heap.size by have := bX.lt; omega)
  have OW := hide oW
  have BI := hide bI
  have BZ := hide bZ
  have BX := hide bX
  have HW := hide hW
  clear oW bI bZ bX hX hW
  have hst : stV p R = #[.int .i64 p, .int .i64 (R 0), .int .i64 (R 1), .int .i64 (R 2), .int .i64 (R 3), .int .i64 (R 4), .int .i64 (R 5), .int .i64 (R 6), .int .i64 (R 7)] := rfl
  rw [hst]
  clear hst
  go_enter Tryd.func15, Tryd.ntmps15
  go_wp2_with (go_at_call 35; rw [HX.out, HW.out]; (with_reducible refine (NM.out _).mono ?_); rintro e u1 ⟨rfl, o1⟩; have o2 := o1.alloc (.cells #[.bool false, .bool false, .bool false] 57); have b2 := BI.out.only o2 (by simp); have i1 := b2.cell 1; have i2 := b2.cell 2; have i3 := b2.cell 3; have O1 := hide o1; clear t0 o1 o2 b2)
  clear i1 i2 i3
  obtain ⟨Y, hY⟩ : ∃ Y, u1.heap.size = Y := ⟨_, rfl⟩
  have bN := (Blk.new u1 57 #[.bool false, .bool false, .bool false]).alloc (.cells #[.int .i64 d, .int .i64 a, .int .i64 b] 59)
  have bL := Blk.new (u1.alloc (.cells #[.bool false, .bool false, .bool false] 57)) 59 #[.int .i64 d, .int .i64 a, .int .i64 b]
  rw [World.size_alloc, hY] at bL
  rw [hY] at bN ⊢
  have o3 := (O1.out.alloc (.cells #[.bool false, .bool false, .bool false] 57)).alloc (.cells #[.int .i64 d, .int .i64 a, .int .i64 b] 59)
  obtain ⟨U, hU⟩ : ∃ U, (u1.alloc (.cells #[.bool false, .bool false, .bool false] 57)).alloc (.cells #[.int .i64 d, .int .i64 a, .int .i64 b] 59) = U := ⟨_, rfl⟩
  rw [hU] at bN bL o3 ⊢
  have B3I := BI.out.only o3 (by simp)
  have B3Z := hide (BZ.out.only o3 (by simp))
  have B3X := hide (BX.out.only o3 (by simp))
  have OU := hide (OW.out.trans0 o3)
  have CN := hide (fun q (hq : q < 3) => (bN.cell q).trans (nB_get false false false q hq))
  have CL := hide (fun q (hq : q < 3) => (bL.cell q).trans (lB_get d a b q hq))
  have HUX := hide (show X + 3 ≤ U.heap.size by have := o3.size; have := HWX.out; omega)
  have HB3I := hide B3I
  clear hU hY bN bL o3 O1 BI BZ BX OW NM HW B3I
  go_loopw [8, 10] (fun vo vi wr => ∃ q : Nat, q ≤ 3 ∧ vi = .int .i64 q ∧ vo = .bool (okF true (nB false false false) (lB d a b) q) ∧ U = wr) (fun _ vi _ => 3 - (intOf vi).toNat)
  case atStart => exact ⟨0, by omega, rfl, rfl, (by first | rfl | trivial)⟩
  case round =>
    obtain ⟨q, hq, rfl, rfl, hw⟩ := hrel
    obtain rfl := hw
    by_cases hq3 : q < 3
    · have cN := CN.out q hq3
      have cL := CL.out q hq3
      have hst : okF true (nB false false false) (lB d a b) (q + 1) = (okF true (nB false false false) (lB d a b) q && inReg ((nB false false false) q) ((lB d a b) q)) := rfl
      obtain ⟨b0, hb0⟩ : ∃ b0, okF true (nB false false false) (lB d a b) q = b0 := ⟨_, rfl⟩
      obtain ⟨nq, hnq⟩ : ∃ nq, (nB false false false) q = nq := ⟨_, rfl⟩
      obtain ⟨lq, hlq⟩ : ∃ lq, (lB d a b) q = lq := ⟨_, rfl⟩
      rw [hb0, hnq, hlq] at hst
      rw [hnq] at cN
      rw [hlq] at cL
      rw [hb0]
      have HST := hide hst
      have j0 : (q : Int) < 3 := by omega
      have j1 : (0 : Int) ≤ (q : Int) := by omega
      clear hb0 hnq hlq hst
      cases b0
      · go_wp2_with fail
        go_roundw
        case rel => exact ⟨q + 1, by omega, by go_num, by rw [HST.out]; rfl, (by first | rfl | trivial)⟩
        case measure => simp [intOf]; omega
      cases nq
      · go_wp2_with fail
        go_roundw
        case rel => exact ⟨q + 1, by omega, by go_num, by rw [HST.out]; rfl, (by first | rfl | trivial)⟩
        case measure => simp [intOf]; omega
      by_cases h0 : 0 ≤ lq
      · by_cases h7 : lq ≤ 7
        · have e0 : decide (0 ≤ lq) = true := decide_eq_true h0
          have e7 : decide (lq ≤ 7) = true := decide_eq_true h7
          go_wp2_with fail
          go_roundw
          case rel => exact ⟨q + 1, by omega, by go_num, by rw [HST.out]; simp [inReg, h0, h7], (by first | rfl | trivial)⟩
          case measure => simp [intOf]; omega
        · have e0 : decide (0 ≤ lq) = true := decide_eq_true h0
          have e7 : decide (lq ≤ 7) = false := decide_eq_false h7
          go_wp2_with fail
          go_roundw
          case rel => exact ⟨q + 1, by omega, by go_num, by rw [HST.out]; simp [inReg, h0, h7], (by first | rfl | trivial)⟩
          case measure => simp [intOf]; omega
      · have e0 : decide (0 ≤ lq) = false := decide_eq_false h0
        go_wp2_with fail
        go_roundw
        case rel => exact ⟨q + 1, by omega, by go_num, by rw [HST.out]; simp [inReg, h0], (by first | rfl | trivial)⟩
        case measure => simp [intOf]; omega
    · obtain rfl : q = 3 := by omega
      rw [HF.out]
      clear CN CL HF
      have z0 : (U).cell? ⟨X + 1, 0, none⟩ = some (.int .i64 p) := B3Z.out.cell 0
      have z1 : (U).cell? ⟨X + 1, 1, none⟩ = some (.int .i64 (R 0)) := B3Z.out.cell 1
      have z2 : (U).cell? ⟨X + 1, 2, none⟩ = some (.int .i64 (R 1)) := B3Z.out.cell 2
      have z3 : (U).cell? ⟨X + 1, 3, none⟩ = some (.int .i64 (R 2)) := B3Z.out.cell 3
      have z4 : (U).cell? ⟨X + 1, 4, none⟩ = some (.int .i64 (R 3)) := B3Z.out.cell 4
      have z5 : (U).cell? ⟨X + 1, 5, none⟩ = some (.int .i64 (R 4)) := B3Z.out.cell 5
      have z6 : (U).cell? ⟨X + 1, 6, none⟩ = some (.int .i64 (R 5)) := B3Z.out.cell 6
      have z7 : (U).cell? ⟨X + 1, 7, none⟩ = some (.int .i64 (R 6)) := B3Z.out.cell 7
      have z8 : (U).cell? ⟨X + 1, 8, none⟩ = some (.int .i64 (R 7)) := B3Z.out.cell 8
      obtain ⟨pw, hpw⟩ : ∃ pw, IntKind.i64.wrap (p + 1) = pw := ⟨_, rfl⟩
      have PGF := PGF.out
      have PGF := hide PGF
      obtain ⟨V, hV⟩ : ∃ V, U.alloc (.cells #[.int .i64 pw, .int .i64 (R 0), .int .i64 (R 1), .int .i64 (R 2), .int .i64 (R 3), .int .i64 (R 4), .int .i64 (R 5), .int .i64 (R 6), .int .i64 (R 7)] 39) = V := ⟨_, rfl⟩
      have bO : Blk V U.heap.size 39 (stV pw R) := by rw [← hV]; exact Blk.new U 39 (stV pw R)
      have oV : Only [] U V := by rw [← hV]; exact (Only.refl [] U).alloc _
      have f0 : (U.alloc (.cells #[.int .i64 p, .int .i64 (R 0), .int .i64 (R 1), .int .i64 (R 2), .int .i64 (R 3), .int .i64 (R 4), .int .i64 (R 5), .int .i64 (R 6), .int .i64 (R 7)] 39)).cell? ⟨X + 1, 0, none⟩ = some (.int .i64 p) := (B3Z.out.alloc _).cell 0
      have BVI := HB3I.out.only oV (by simp)
      have BVZ := hide (B3Z.out.only oV (by simp))
      have BVX := hide (B3X.out.only oV (by simp))
      have OV := hide (OU.out.trans0 oV)
      have BO := hide bO
      clear bO oV B3Z B3X OU HB3I
      have i0 := BVI.cell 0
      have i1 := BVI.cell 1
      have i2 := BVI.cell 2
      have i3 := BVI.cell 3
      have i4 := BVI.cell 4
      clear BVI
      have z0 : (V).cell? ⟨X + 1, 0, none⟩ = some (.int .i64 p) := BVZ.out.cell 0
      have z1 : (V).cell? ⟨X + 1, 1, none⟩ = some (.int .i64 (R 0)) := BVZ.out.cell 1
      have z2 : (V).cell? ⟨X + 1, 2, none⟩ = some (.int .i64 (R 1)) := BVZ.out.cell 2
      have z3 : (V).cell? ⟨X + 1, 3, none⟩ = some (.int .i64 (R 2)) := BVZ.out.cell 3
      have z4 : (V).cell? ⟨X + 1, 4, none⟩ = some (.int .i64 (R 3)) := BVZ.out.cell 4
      have z5 : (V).cell? ⟨X + 1, 5, none⟩ = some (.int .i64 (R 4)) := BVZ.out.cell 5
      have z6 : (V).cell? ⟨X + 1, 6, none⟩ = some (.int .i64 (R 5)) := BVZ.out.cell 6
      have z7 : (V).cell? ⟨X + 1, 7, none⟩ = some (.int .i64 (R 6)) := BVZ.out.cell 7
      have z8 : (V).cell? ⟨X + 1, 8, none⟩ = some (.int .i64 (R 7)) := BVZ.out.cell 8
      have x0 : (V).cell? ⟨X + 1 + 1, 0, none⟩ = some (.int .i64 0) := BVX.out.cell 0
      have y0 := BVX.out.frozen 0
      have x1 : (V).cell? ⟨X + 1 + 1, 1, none⟩ = some (.int .i64 0) := BVX.out.cell 1
      have y1 := BVX.out.frozen 1
      have x2 : (V).cell? ⟨X + 1 + 1, 2, none⟩ = some (.int .i64 0) := BVX.out.cell 2
      have y2 := BVX.out.frozen 2
      have x3 : (V).cell? ⟨X + 1 + 1, 3, none⟩ = some (.int .i64 0) := BVX.out.cell 3
      have y3 := BVX.out.frozen 3
      have x4 : (V).cell? ⟨X + 1 + 1, 4, none⟩ = some (.int .i64 0) := BVX.out.cell 4
      have y4 := BVX.out.frozen 4
      have x5 : (V).cell? ⟨X + 1 + 1, 5, none⟩ = some (.int .i64 0) := BVX.out.cell 5
      have y5 := BVX.out.frozen 5
      have x6 : (V).cell? ⟨X + 1 + 1, 6, none⟩ = some (.int .i64 0) := BVX.out.cell 6
      have y6 := BVX.out.frozen 6
      have x7 : (V).cell? ⟨X + 1 + 1, 7, none⟩ = some (.int .i64 0) := BVX.out.cell 7
      have y7 := BVX.out.frozen 7
      have x8 : (V).cell? ⟨X + 1 + 1, 8, none⟩ = some (.int .i64 0) := BVX.out.cell 8
      have y8 := BVX.out.frozen 8
      go_wp2_with fail
      rw [PGF.out]
      have BFF := (((((((((BVX.out).set_ 0 (.int .i64 p)).set_ 1 (.int .i64 (R 0))).set_ 2 (.int .i64 (R 1))).set_ 3 (.int .i64 (R 2))).set_ 4 (.int .i64 (R 3))).set_ 5 (.int .i64 (R 4))).set_ 6 (.int .i64 (R 5))).set_ 7 (.int .i64 (R 6))).set_ 8 (.int .i64 (R 7))
      refine bodyPost_ret (v := .tuple #[.agg (stV p (R)), .bool false]) (results_cell2b Tryd.results15 rfl rfl (load39 (p := p) (R := R) (by simpa [stV] using BFF))) rfl ⟨rfl, ?_⟩
      have OFF := (((((((((((OV.out.mono (T := [U.heap.size, X + 1 + 1]) (by simp))).setCell (p := ⟨X + 1 + 1, 0, none⟩) (.inl (by simp)) (.int .i64 p)).setCell (p := ⟨X + 1 + 1, 1, none⟩) (.inl (by simp)) (.int .i64 (R 0))).setCell (p := ⟨X + 1 + 1, 2, none⟩) (.inl (by simp)) (.int .i64 (R 1))).setCell (p := ⟨X + 1 + 1, 3, none⟩) (.inl (by simp)) (.int .i64 (R 2))).setCell (p := ⟨X + 1 + 1, 4, none⟩) (.inl (by simp)) (.int .i64 (R 3))).setCell (p := ⟨X + 1 + 1, 5, none⟩) (.inl (by simp)) (.int .i64 (R 4))).setCell (p := ⟨X + 1 + 1, 6, none⟩) (.inl (by simp)) (.int .i64 (R 5))).setCell (p := ⟨X + 1 + 1, 7, none⟩) (.inl (by simp)) (.int .i64 (R 6))).setCell (p := ⟨X + 1 + 1, 8, none⟩) (.inl (by simp)) (.int .i64 (R 7))).mono (T := []) (fun x hx => .inr (by have := HX.out; have := HUX.out; simp at hx; omega))
      first | exact OFF | exact OFF.drew
set_option maxHeartbeats 8000000 in
theorem rstep1 (d : Nat) (hd : d < 8) (a : Int) (b : Int) (imm : Int) (p : Int) (R : Nat → Int) (w : World) : Calls Tryd.prog 15 #[.agg #[.int .i64 (1), .int .i64 ((d : Nat) : Int), .int .i64 a, .int .i64 b, .int .i64 imm], .agg (stV p R)] w fun e w' => e = .returned (stepV ⟨1, ((d : Nat) : Int), a, b, imm⟩ p R) ∧ Only [] w w' := by
  have PGF := hide (show stepV ⟨1, ((d : Nat) : Int), a, b, imm⟩ p R = .tuple #[.agg (stV (IntKind.i64.wrap (p + 1)) (upR R d imm)), .bool true] from by
    have h1 : stepOk ⟨1, ((d : Nat) : Int), a, b, imm⟩ = true := by unfold stepOk inReg; simp [shp] <;> omega
    have h2 : stepPC ⟨1, ((d : Nat) : Int), a, b, imm⟩ p R = (IntKind.i64.wrap (p + 1)) := by unfold stepPC; simp
    have h3 : stepR ⟨1, ((d : Nat) : Int), a, b, imm⟩ R = (upR R d imm) := by unfold stepR; simp
    unfold stepV
    rw [h1, h2, h3]
    rfl)
  have NM := hide (fun W => show Calls Tryd.prog 35 #[.int .i64 1] W fun e w' => e = .returned (.tuple #[.agg #[.bool true, .bool false, .bool false], .int .i64 (1), .bool true]) ∧ Only [] W w' from named_ok 1 (by decide) W)
  have HF := hide (show okF true (nB true false false) (lB ((d : Nat) : Int) a b) 3 = true by rw [okF_three]; unfold inReg; simp <;> omega)
  obtain ⟨X, hX⟩ : ∃ X, w.heap.size = X := ⟨_, rfl⟩
  obtain ⟨W, hW⟩ : ∃ W, ((w.alloc (.cells #[.int .i64 (1), .int .i64 ((d : Nat) : Int), .int .i64 a, .int .i64 b, .int .i64 imm] 24)).alloc (.cells (stV p R) 39)).alloc (.cells #[.int .i64 0, .int .i64 0, .int .i64 0, .int .i64 0, .int .i64 0, .int .i64 0, .int .i64 0, .int .i64 0, .int .i64 0] 39) = W := ⟨_, rfl⟩
  have oW : Only [] w W := by rw [← hW]; exact (((Only.refl [] w).alloc _).alloc _).alloc _
  have bI : Blk W X 24 #[.int .i64 (1), .int .i64 ((d : Nat) : Int), .int .i64 a, .int .i64 b, .int .i64 imm] := by rw [← hW, ← hX]; exact ((Blk.new w 24 _).alloc _).alloc _
  have bZ : Blk W (X + 1) 39 (stV p R) := by
    have := (Blk.new (w.alloc (.cells #[.int .i64 (1), .int .i64 ((d : Nat) : Int), .int .i64 a, .int .i64 b, .int .i64 imm] 24)) 39 (stV p R)).alloc (.cells #[.int .i64 0, .int .i64 0, .int .i64 0, .int .i64 0, .int .i64 0, .int .i64 0, .int .i64 0, .int .i64 0, .int .i64 0] 39)
    rw [World.size_alloc, hX, hW] at this
    exact this
  have bX : Blk W (X + 1 + 1) 39 #[.int .i64 0, .int .i64 0, .int .i64 0, .int .i64 0, .int .i64 0, .int .i64 0, .int .i64 0, .int .i64 0, .int .i64 0] := by
    have := Blk.new ((w.alloc (.cells #[.int .i64 (1), .int .i64 ((d : Nat) : Int), .int .i64 a, .int .i64 b, .int .i64 imm] 24)).alloc (.cells (stV p R) 39)) 39 #[.int .i64 0, .int .i64 0, .int .i64 0, .int .i64 0, .int .i64 0, .int .i64 0, .int .i64 0, .int .i64 0, .int .i64 0]
    rw [World.size_alloc, World.size_alloc, hX, hW] at this
    exact this
  have t0 : W.cell? ⟨X, 0, none⟩ = some (.int .i64 (1)) := bI.cell 0
  rw [← hW, ← hX] at t0
  unfold stV at t0 hW
  have HX := hide hX
  have HWX := hide (show X + 3 ≤ W.heap.size by have := bX.lt; omega)
  have OW := hide oW
  have BI := hide bI
  have BZ := hide bZ
  have BX := hide bX
  have HW := hide hW
  clear oW bI bZ bX hX hW
  have hst : stV p R = #[.int .i64 p, .int .i64 (R 0), .int .i64 (R 1), .int .i64 (R 2), .int .i64 (R 3), .int .i64 (R 4), .int .i64 (R 5), .int .i64 (R 6), .int .i64 (R 7)] := rfl
  rw [hst]
  clear hst
  go_enter Tryd.func15, Tryd.ntmps15
  go_wp2_with (go_at_call 35; rw [HX.out, HW.out]; (with_reducible refine (NM.out _).mono ?_); rintro e u1 ⟨rfl, o1⟩; have o2 := o1.alloc (.cells #[.bool true, .bool false, .bool false] 57); have b2 := BI.out.only o2 (by simp); have i1 := b2.cell 1; have i2 := b2.cell 2; have i3 := b2.cell 3; have O1 := hide o1; clear t0 o1 o2 b2)
  clear i1 i2 i3
  obtain ⟨Y, hY⟩ : ∃ Y, u1.heap.size = Y := ⟨_, rfl⟩
  have bN := (Blk.new u1 57 #[.bool true, .bool false, .bool false]).alloc (.cells #[.int .i64 ((d : Nat) : Int), .int .i64 a, .int .i64 b] 59)
  have bL := Blk.new (u1.alloc (.cells #[.bool true, .bool false, .bool false] 57)) 59 #[.int .i64 ((d : Nat) : Int), .int .i64 a, .int .i64 b]
  rw [World.size_alloc, hY] at bL
  rw [hY] at bN ⊢
  have o3 := (O1.out.alloc (.cells #[.bool true, .bool false, .bool false] 57)).alloc (.cells #[.int .i64 ((d : Nat) : Int), .int .i64 a, .int .i64 b] 59)
  obtain ⟨U, hU⟩ : ∃ U, (u1.alloc (.cells #[.bool true, .bool false, .bool false] 57)).alloc (.cells #[.int .i64 ((d : Nat) : Int), .int .i64 a, .int .i64 b] 59) = U := ⟨_, rfl⟩
  rw [hU] at bN bL o3 ⊢
  have B3I := BI.out.only o3 (by simp)
  have B3Z := hide (BZ.out.only o3 (by simp))
  have B3X := hide (BX.out.only o3 (by simp))
  have OU := hide (OW.out.trans0 o3)
  have CN := hide (fun q (hq : q < 3) => (bN.cell q).trans (nB_get true false false q hq))
  have CL := hide (fun q (hq : q < 3) => (bL.cell q).trans (lB_get ((d : Nat) : Int) a b q hq))
  have HUX := hide (show X + 3 ≤ U.heap.size by have := o3.size; have := HWX.out; omega)
  have HB3I := hide B3I
  clear hU hY bN bL o3 O1 BI BZ BX OW NM HW B3I
  go_loopw [8, 10] (fun vo vi wr => ∃ q : Nat, q ≤ 3 ∧ vi = .int .i64 q ∧ vo = .bool (okF true (nB true false false) (lB ((d : Nat) : Int) a b) q) ∧ U = wr) (fun _ vi _ => 3 - (intOf vi).toNat)
  case atStart => exact ⟨0, by omega, rfl, rfl, (by first | rfl | trivial)⟩
  case round =>
    obtain ⟨q, hq, rfl, rfl, hw⟩ := hrel
    obtain rfl := hw
    by_cases hq3 : q < 3
    · have cN := CN.out q hq3
      have cL := CL.out q hq3
      have hst : okF true (nB true false false) (lB ((d : Nat) : Int) a b) (q + 1) = (okF true (nB true false false) (lB ((d : Nat) : Int) a b) q && inReg ((nB true false false) q) ((lB ((d : Nat) : Int) a b) q)) := rfl
      obtain ⟨b0, hb0⟩ : ∃ b0, okF true (nB true false false) (lB ((d : Nat) : Int) a b) q = b0 := ⟨_, rfl⟩
      obtain ⟨nq, hnq⟩ : ∃ nq, (nB true false false) q = nq := ⟨_, rfl⟩
      obtain ⟨lq, hlq⟩ : ∃ lq, (lB ((d : Nat) : Int) a b) q = lq := ⟨_, rfl⟩
      rw [hb0, hnq, hlq] at hst
      rw [hnq] at cN
      rw [hlq] at cL
      rw [hb0]
      have HST := hide hst
      have j0 : (q : Int) < 3 := by omega
      have j1 : (0 : Int) ≤ (q : Int) := by omega
      clear hb0 hnq hlq hst
      cases b0
      · go_wp2_with fail
        go_roundw
        case rel => exact ⟨q + 1, by omega, by go_num, by rw [HST.out]; rfl, (by first | rfl | trivial)⟩
        case measure => simp [intOf]; omega
      cases nq
      · go_wp2_with fail
        go_roundw
        case rel => exact ⟨q + 1, by omega, by go_num, by rw [HST.out]; rfl, (by first | rfl | trivial)⟩
        case measure => simp [intOf]; omega
      by_cases h0 : 0 ≤ lq
      · by_cases h7 : lq ≤ 7
        · have e0 : decide (0 ≤ lq) = true := decide_eq_true h0
          have e7 : decide (lq ≤ 7) = true := decide_eq_true h7
          go_wp2_with fail
          go_roundw
          case rel => exact ⟨q + 1, by omega, by go_num, by rw [HST.out]; simp [inReg, h0, h7], (by first | rfl | trivial)⟩
          case measure => simp [intOf]; omega
        · have e0 : decide (0 ≤ lq) = true := decide_eq_true h0
          have e7 : decide (lq ≤ 7) = false := decide_eq_false h7
          go_wp2_with fail
          go_roundw
          case rel => exact ⟨q + 1, by omega, by go_num, by rw [HST.out]; simp [inReg, h0, h7], (by first | rfl | trivial)⟩
          case measure => simp [intOf]; omega
      · have e0 : decide (0 ≤ lq) = false := decide_eq_false h0
        go_wp2_with fail
        go_roundw
        case rel => exact ⟨q + 1, by omega, by go_num, by rw [HST.out]; simp [inReg, h0], (by first | rfl | trivial)⟩
        case measure => simp [intOf]; omega
    · obtain rfl : q = 3 := by omega
      rw [HF.out]
      clear CN CL HF
      have z0 : (U).cell? ⟨X + 1, 0, none⟩ = some (.int .i64 p) := B3Z.out.cell 0
      have z1 : (U).cell? ⟨X + 1, 1, none⟩ = some (.int .i64 (R 0)) := B3Z.out.cell 1
      have z2 : (U).cell? ⟨X + 1, 2, none⟩ = some (.int .i64 (R 1)) := B3Z.out.cell 2
      have z3 : (U).cell? ⟨X + 1, 3, none⟩ = some (.int .i64 (R 2)) := B3Z.out.cell 3
      have z4 : (U).cell? ⟨X + 1, 4, none⟩ = some (.int .i64 (R 3)) := B3Z.out.cell 4
      have z5 : (U).cell? ⟨X + 1, 5, none⟩ = some (.int .i64 (R 4)) := B3Z.out.cell 5
      have z6 : (U).cell? ⟨X + 1, 6, none⟩ = some (.int .i64 (R 5)) := B3Z.out.cell 6
      have z7 : (U).cell? ⟨X + 1, 7, none⟩ = some (.int .i64 (R 6)) := B3Z.out.cell 7
      have z8 : (U).cell? ⟨X + 1, 8, none⟩ = some (.int .i64 (R 7)) := B3Z.out.cell 8
      obtain ⟨pw, hpw⟩ : ∃ pw, IntKind.i64.wrap (p + 1) = pw := ⟨_, rfl⟩
      have PGF := PGF.out
      rw [hpw] at PGF
      obtain ⟨R2, hR2⟩ : ∃ R2, upR R d imm = R2 := ⟨_, rfl⟩
      rw [hR2] at PGF
      have PGF := hide PGF
      obtain ⟨V, hV⟩ : ∃ V, U.alloc (.cells #[.int .i64 pw, .int .i64 (R 0), .int .i64 (R 1), .int .i64 (R 2), .int .i64 (R 3), .int .i64 (R 4), .int .i64 (R 5), .int .i64 (R 6), .int .i64 (R 7)] 39) = V := ⟨_, rfl⟩
      have bO : Blk V U.heap.size 39 (stV pw R) := by rw [← hV]; exact Blk.new U 39 (stV pw R)
      have oV : Only [] U V := by rw [← hV]; exact (Only.refl [] U).alloc _
      have f0 : (U.alloc (.cells #[.int .i64 p, .int .i64 (R 0), .int .i64 (R 1), .int .i64 (R 2), .int .i64 (R 3), .int .i64 (R 4), .int .i64 (R 5), .int .i64 (R 6), .int .i64 (R 7)] 39)).cell? ⟨X + 1, 0, none⟩ = some (.int .i64 p) := (B3Z.out.alloc _).cell 0
      have BVI := HB3I.out.only oV (by simp)
      have BVZ := hide (B3Z.out.only oV (by simp))
      have BVX := hide (B3X.out.only oV (by simp))
      have OV := hide (OU.out.trans0 oV)
      have BO := hide bO
      clear bO oV B3Z B3X OU HB3I
      have i0 := BVI.cell 0
      have i1 := BVI.cell 1
      have i2 := BVI.cell 2
      have i3 := BVI.cell 3
      have i4 := BVI.cell 4
      clear BVI
      have j0d : (0 : Int) ≤ (d : Int) := by omega
      have j1d : (d : Int) < 8 := by omega
      have oc := (BO.out.cell (1 + d)).trans (stV_get pw R d hd)
      have fo := BO.out.frozen (1 + d)
      obtain ⟨V2, hV2⟩ : ∃ V2, V.setCell ⟨U.heap.size, 1 + d, none⟩ (.int .i64 imm) = V2 := ⟨_, rfl⟩
      have bO2 : Blk V2 U.heap.size 39 (stV pw R2) := by rw [← hV2, ← hR2]; have := BO.out.set_ (1 + d) (.int .i64 imm); rw [stV_set pw R _ d hd] at this; exact this
      have bX2 : Blk V2 (X + 1 + 1) 39 #[.int .i64 0, .int .i64 0, .int .i64 0, .int .i64 0, .int .i64 0, .int .i64 0, .int .i64 0, .int .i64 0, .int .i64 0] := by rw [← hV2]; exact BVX.out.far (by have := HUX.out; simp; omega) _
      have O2 : Only [U.heap.size] w V2 := by rw [← hV2]; exact (OV.out.mono (T := [U.heap.size]) (by simp)).setCell (.inl (by simp)) _
      clear hR2
      have HO2 := hide O2
      have HX2 := hide bX2
      have BO2 := hide bO2
      clear O2 bX2 bO2
      have o0 : (V2).cell? ⟨U.heap.size, 0, none⟩ = some (.int .i64 pw) := BO2.out.cell 0
      have o1 : (V2).cell? ⟨U.heap.size, 1, none⟩ = some (.int .i64 (R2 0)) := BO2.out.cell 1
      have o2 : (V2).cell? ⟨U.heap.size, 2, none⟩ = some (.int .i64 (R2 1)) := BO2.out.cell 2
      have o3 : (V2).cell? ⟨U.heap.size, 3, none⟩ = some (.int .i64 (R2 2)) := BO2.out.cell 3
      have o4 : (V2).cell? ⟨U.heap.size, 4, none⟩ = some (.int .i64 (R2 3)) := BO2.out.cell 4
      have o5 : (V2).cell? ⟨U.heap.size, 5, none⟩ = some (.int .i64 (R2 4)) := BO2.out.cell 5
      have o6 : (V2).cell? ⟨U.heap.size, 6, none⟩ = some (.int .i64 (R2 5)) := BO2.out.cell 6
      have o7 : (V2).cell? ⟨U.heap.size, 7, none⟩ = some (.int .i64 (R2 6)) := BO2.out.cell 7
      have o8 : (V2).cell? ⟨U.heap.size, 8, none⟩ = some (.int .i64 (R2 7)) := BO2.out.cell 8
      have x0 : (V2).cell? ⟨X + 1 + 1, 0, none⟩ = some (.int .i64 0) := HX2.out.cell 0
      have y0 := HX2.out.frozen 0
      have x1 : (V2).cell? ⟨X + 1 + 1, 1, none⟩ = some (.int .i64 0) := HX2.out.cell 1
      have y1 := HX2.out.frozen 1
      have x2 : (V2).cell? ⟨X + 1 + 1, 2, none⟩ = some (.int .i64 0) := HX2.out.cell 2
      have y2 := HX2.out.frozen 2
      have x3 : (V2).cell? ⟨X + 1 + 1, 3, none⟩ = some (.int .i64 0) := HX2.out.cell 3
      have y3 := HX2.out.frozen 3
      have x4 : (V2).cell? ⟨X + 1 + 1, 4, none⟩ = some (.int .i64 0) := HX2.out.cell 4
      have y4 := HX2.out.frozen 4
      have x5 : (V2).cell? ⟨X + 1 + 1, 5, none⟩ = some (.int .i64 0) := HX2.out.cell 5
      have y5 := HX2.out.frozen 5
      have x6 : (V2).cell? ⟨X + 1 + 1, 6, none⟩ = some (.int .i64 0) := HX2.out.cell 6
      have y6 := HX2.out.frozen 6
      have x7 : (V2).cell? ⟨X + 1 + 1, 7, none⟩ = some (.int .i64 0) := HX2.out.cell 7
      have y7 := HX2.out.frozen 7
      have x8 : (V2).cell? ⟨X + 1 + 1, 8, none⟩ = some (.int .i64 0) := HX2.out.cell 8
      have y8 := HX2.out.frozen 8
      go_wp2_with fail
      rw [PGF.out]
      have BFF := (((((((((HX2.out).set_ 0 (.int .i64 pw)).set_ 1 (.int .i64 (R2 0))).set_ 2 (.int .i64 (R2 1))).set_ 3 (.int .i64 (R2 2))).set_ 4 (.int .i64 (R2 3))).set_ 5 (.int .i64 (R2 4))).set_ 6 (.int .i64 (R2 5))).set_ 7 (.int .i64 (R2 6))).set_ 8 (.int .i64 (R2 7))
      refine bodyPost_ret (v := .tuple #[.agg (stV pw (R2)), .bool true]) (results_cell2b Tryd.results15 rfl rfl (load39 (p := pw) (R := R2) (by simpa [stV] using BFF))) rfl ⟨rfl, ?_⟩
      have OFF := (((((((((((HO2.out.mono (T := [U.heap.size, X + 1 + 1]) (by simp))).setCell (p := ⟨X + 1 + 1, 0, none⟩) (.inl (by simp)) (.int .i64 pw)).setCell (p := ⟨X + 1 + 1, 1, none⟩) (.inl (by simp)) (.int .i64 (R2 0))).setCell (p := ⟨X + 1 + 1, 2, none⟩) (.inl (by simp)) (.int .i64 (R2 1))).setCell (p := ⟨X + 1 + 1, 3, none⟩) (.inl (by simp)) (.int .i64 (R2 2))).setCell (p := ⟨X + 1 + 1, 4, none⟩) (.inl (by simp)) (.int .i64 (R2 3))).setCell (p := ⟨X + 1 + 1, 5, none⟩) (.inl (by simp)) (.int .i64 (R2 4))).setCell (p := ⟨X + 1 + 1, 6, none⟩) (.inl (by simp)) (.int .i64 (R2 5))).setCell (p := ⟨X + 1 + 1, 7, none⟩) (.inl (by simp)) (.int .i64 (R2 6))).setCell (p := ⟨X + 1 + 1, 8, none⟩) (.inl (by simp)) (.int .i64 (R2 7))).mono (T := []) (fun x hx => .inr (by have := HX.out; have := HUX.out; simp at hx; omega))
      first | exact OFF | exact OFF.drew
set_option maxHeartbeats 8000000 in
theorem rstep2 (d : Nat) (hd : d < 8) (a : Nat) (ha : a < 8) (b : Int) (imm : Int) (p : Int) (R : Nat → Int) (w : World) : Calls Tryd.prog 15 #[.agg #[.int .i64 (2), .int .i64 ((d : Nat) : Int), .int .i64 ((a : Nat) : Int), .int .i64 b, .int .i64 imm], .agg (stV p R)] w fun e w' => e = .returned (stepV ⟨2, ((d : Nat) : Int), ((a : Nat) : Int), b, imm⟩ p R) ∧ Only [] w w' := by
  have PGF := hide (show stepV ⟨2, ((d : Nat) : Int), ((a : Nat) : Int), b, imm⟩ p R = .tuple #[.agg (stV (IntKind.i64.wrap (p + 1)) (upR R d (R a))), .bool true] from by
    have h1 : stepOk ⟨2, ((d : Nat) : Int), ((a : Nat) : Int), b, imm⟩ = true := by unfold stepOk inReg; simp [shp] <;> omega
    have h2 : stepPC ⟨2, ((d : Nat) : Int), ((a : Nat) : Int), b, imm⟩ p R = (IntKind.i64.wrap (p + 1)) := by unfold stepPC; simp
    have h3 : stepR ⟨2, ((d : Nat) : Int), ((a : Nat) : Int), b, imm⟩ R = (upR R d (R a)) := by unfold stepR; simp
    unfold stepV
    rw [h1, h2, h3]
    rfl)
  have NM := hide (fun W => show Calls Tryd.prog 35 #[.int .i64 2] W fun e w' => e = .returned (.tuple #[.agg #[.bool true, .bool true, .bool false], .int .i64 (0), .bool true]) ∧ Only [] W w' from named_ok 2 (by decide) W)
  have HF := hide (show okF true (nB true true false) (lB ((d : Nat) : Int) ((a : Nat) : Int) b) 3 = true by rw [okF_three]; unfold inReg; simp <;> omega)
  obtain ⟨X, hX⟩ : ∃ X, w.heap.size = X := ⟨_, rfl⟩
  obtain ⟨W, hW⟩ : ∃ W, ((w.alloc (.cells #[.int .i64 (2), .int .i64 ((d : Nat) : Int), .int .i64 ((a : Nat) : Int), .int .i64 b, .int .i64 imm] 24)).alloc (.cells (stV p R) 39)).alloc (.cells #[.int .i64 0, .int .i64 0, .int .i64 0, .int .i64 0, .int .i64 0, .int .i64 0, .int .i64 0, .int .i64 0, .int .i64 0] 39) = W := ⟨_, rfl⟩
  have oW : Only [] w W := by rw [← hW]; exact (((Only.refl [] w).alloc _).alloc _).alloc _
  have bI : Blk W X 24 #[.int .i64 (2), .int .i64 ((d : Nat) : Int), .int .i64 ((a : Nat) : Int), .int .i64 b, .int .i64 imm] := by rw [← hW, ← hX]; exact ((Blk.new w 24 _).alloc _).alloc _
  have bZ : Blk W (X + 1) 39 (stV p R) := by
    have := (Blk.new (w.alloc (.cells #[.int .i64 (2), .int .i64 ((d : Nat) : Int), .int .i64 ((a : Nat) : Int), .int .i64 b, .int .i64 imm] 24)) 39 (stV p R)).alloc (.cells #[.int .i64 0, .int .i64 0, .int .i64 0, .int .i64 0, .int .i64 0, .int .i64 0, .int .i64 0, .int .i64 0, .int .i64 0] 39)
    rw [World.size_alloc, hX, hW] at this
    exact this
  have bX : Blk W (X + 1 + 1) 39 #[.int .i64 0, .int .i64 0, .int .i64 0, .int .i64 0, .int .i64 0, .int .i64 0, .int .i64 0, .int .i64 0, .int .i64 0] := by
    have := Blk.new ((w.alloc (.cells #[.int .i64 (2), .int .i64 ((d : Nat) : Int), .int .i64 ((a : Nat) : Int), .int .i64 b, .int .i64 imm] 24)).alloc (.cells (stV p R) 39)) 39 #[.int .i64 0, .int .i64 0, .int .i64 0, .int .i64 0, .int .i64 0, .int .i64 0, .int .i64 0, .int .i64 0, .int .i64 0]
    rw [World.size_alloc, World.size_alloc, hX, hW] at this
    exact this
  have t0 : W.cell? ⟨X, 0, none⟩ = some (.int .i64 (2)) := bI.cell 0
  rw [← hW, ← hX] at t0
  unfold stV at t0 hW
  have HX := hide hX
  have HWX := hide (show X + 3 ≤ W.heap.size by have := bX.lt; omega)
  have OW := hide oW
  have BI := hide bI
  have BZ := hide bZ
  have BX := hide bX
  have HW := hide hW
  clear oW bI bZ bX hX hW
  have hst : stV p R = #[.int .i64 p, .int .i64 (R 0), .int .i64 (R 1), .int .i64 (R 2), .int .i64 (R 3), .int .i64 (R 4), .int .i64 (R 5), .int .i64 (R 6), .int .i64 (R 7)] := rfl
  rw [hst]
  clear hst
  go_enter Tryd.func15, Tryd.ntmps15
  go_wp2_with (go_at_call 35; rw [HX.out, HW.out]; (with_reducible refine (NM.out _).mono ?_); rintro e u1 ⟨rfl, o1⟩; have o2 := o1.alloc (.cells #[.bool true, .bool true, .bool false] 57); have b2 := BI.out.only o2 (by simp); have i1 := b2.cell 1; have i2 := b2.cell 2; have i3 := b2.cell 3; have O1 := hide o1; clear t0 o1 o2 b2)
  clear i1 i2 i3
  obtain ⟨Y, hY⟩ : ∃ Y, u1.heap.size = Y := ⟨_, rfl⟩
  have bN := (Blk.new u1 57 #[.bool true, .bool true, .bool false]).alloc (.cells #[.int .i64 ((d : Nat) : Int), .int .i64 ((a : Nat) : Int), .int .i64 b] 59)
  have bL := Blk.new (u1.alloc (.cells #[.bool true, .bool true, .bool false] 57)) 59 #[.int .i64 ((d : Nat) : Int), .int .i64 ((a : Nat) : Int), .int .i64 b]
  rw [World.size_alloc, hY] at bL
  rw [hY] at bN ⊢
  have o3 := (O1.out.alloc (.cells #[.bool true, .bool true, .bool false] 57)).alloc (.cells #[.int .i64 ((d : Nat) : Int), .int .i64 ((a : Nat) : Int), .int .i64 b] 59)
  obtain ⟨U, hU⟩ : ∃ U, (u1.alloc (.cells #[.bool true, .bool true, .bool false] 57)).alloc (.cells #[.int .i64 ((d : Nat) : Int), .int .i64 ((a : Nat) : Int), .int .i64 b] 59) = U := ⟨_, rfl⟩
  rw [hU] at bN bL o3 ⊢
  have B3I := BI.out.only o3 (by simp)
  have B3Z := hide (BZ.out.only o3 (by simp))
  have B3X := hide (BX.out.only o3 (by simp))
  have OU := hide (OW.out.trans0 o3)
  have CN := hide (fun q (hq : q < 3) => (bN.cell q).trans (nB_get true true false q hq))
  have CL := hide (fun q (hq : q < 3) => (bL.cell q).trans (lB_get ((d : Nat) : Int) ((a : Nat) : Int) b q hq))
  have HUX := hide (show X + 3 ≤ U.heap.size by have := o3.size; have := HWX.out; omega)
  have HB3I := hide B3I
  clear hU hY bN bL o3 O1 BI BZ BX OW NM HW B3I
  go_loopw [8, 10] (fun vo vi wr => ∃ q : Nat, q ≤ 3 ∧ vi = .int .i64 q ∧ vo = .bool (okF true (nB true true false) (lB ((d : Nat) : Int) ((a : Nat) : Int) b) q) ∧ U = wr) (fun _ vi _ => 3 - (intOf vi).toNat)
  case atStart => exact ⟨0, by omega, rfl, rfl, (by first | rfl | trivial)⟩
  case round =>
    obtain ⟨q, hq, rfl, rfl, hw⟩ := hrel
    obtain rfl := hw
    by_cases hq3 : q < 3
    · have cN := CN.out q hq3
      have cL := CL.out q hq3
      have hst : okF true (nB true true false) (lB ((d : Nat) : Int) ((a : Nat) : Int) b) (q + 1) = (okF true (nB true true false) (lB ((d : Nat) : Int) ((a : Nat) : Int) b) q && inReg ((nB true true false) q) ((lB ((d : Nat) : Int) ((a : Nat) : Int) b) q)) := rfl
      obtain ⟨b0, hb0⟩ : ∃ b0, okF true (nB true true false) (lB ((d : Nat) : Int) ((a : Nat) : Int) b) q = b0 := ⟨_, rfl⟩
      obtain ⟨nq, hnq⟩ : ∃ nq, (nB true true false) q = nq := ⟨_, rfl⟩
      obtain ⟨lq, hlq⟩ : ∃ lq, (lB ((d : Nat) : Int) ((a : Nat) : Int) b) q = lq := ⟨_, rfl⟩
      rw [hb0, hnq, hlq] at hst
      rw [hnq] at cN
      rw [hlq] at cL
      rw [hb0]
      have HST := hide hst
      have j0 : (q : Int) < 3 := by omega
      have j1 : (0 : Int) ≤ (q : Int) := by omega
      clear hb0 hnq hlq hst
      cases b0
      · go_wp2_with fail
        go_roundw
        case rel => exact ⟨q + 1, by omega, by go_num, by rw [HST.out]; rfl, (by first | rfl | trivial)⟩
        case measure => simp [intOf]; omega
      cases nq
      · go_wp2_with fail
        go_roundw
        case rel => exact ⟨q + 1, by omega, by go_num, by rw [HST.out]; rfl, (by first | rfl | trivial)⟩
        case measure => simp [intOf]; omega
      by_cases h0 : 0 ≤ lq
      · by_cases h7 : lq ≤ 7
        · have e0 : decide (0 ≤ lq) = true := decide_eq_true h0
          have e7 : decide (lq ≤ 7) = true := decide_eq_true h7
          go_wp2_with fail
          go_roundw
          case rel => exact ⟨q + 1, by omega, by go_num, by rw [HST.out]; simp [inReg, h0, h7], (by first | rfl | trivial)⟩
          case measure => simp [intOf]; omega
        · have e0 : decide (0 ≤ lq) = true := decide_eq_true h0
          have e7 : decide (lq ≤ 7) = false := decide_eq_false h7
          go_wp2_with fail
          go_roundw
          case rel => exact ⟨q + 1, by omega, by go_num, by rw [HST.out]; simp [inReg, h0, h7], (by first | rfl | trivial)⟩
          case measure => simp [intOf]; omega
      · have e0 : decide (0 ≤ lq) = false := decide_eq_false h0
        go_wp2_with fail
        go_roundw
        case rel => exact ⟨q + 1, by omega, by go_num, by rw [HST.out]; simp [inReg, h0], (by first | rfl | trivial)⟩
        case measure => simp [intOf]; omega
    · obtain rfl : q = 3 := by omega
      rw [HF.out]
      clear CN CL HF
      have z0 : (U).cell? ⟨X + 1, 0, none⟩ = some (.int .i64 p) := B3Z.out.cell 0
      have z1 : (U).cell? ⟨X + 1, 1, none⟩ = some (.int .i64 (R 0)) := B3Z.out.cell 1
      have z2 : (U).cell? ⟨X + 1, 2, none⟩ = some (.int .i64 (R 1)) := B3Z.out.cell 2
      have z3 : (U).cell? ⟨X + 1, 3, none⟩ = some (.int .i64 (R 2)) := B3Z.out.cell 3
      have z4 : (U).cell? ⟨X + 1, 4, none⟩ = some (.int .i64 (R 3)) := B3Z.out.cell 4
      have z5 : (U).cell? ⟨X + 1, 5, none⟩ = some (.int .i64 (R 4)) := B3Z.out.cell 5
      have z6 : (U).cell? ⟨X + 1, 6, none⟩ = some (.int .i64 (R 5)) := B3Z.out.cell 6
      have z7 : (U).cell? ⟨X + 1, 7, none⟩ = some (.int .i64 (R 6)) := B3Z.out.cell 7
      have z8 : (U).cell? ⟨X + 1, 8, none⟩ = some (.int .i64 (R 7)) := B3Z.out.cell 8
      obtain ⟨pw, hpw⟩ : ∃ pw, IntKind.i64.wrap (p + 1) = pw := ⟨_, rfl⟩
      have PGF := PGF.out
      rw [hpw] at PGF
      obtain ⟨R2, hR2⟩ : ∃ R2, upR R d (R a) = R2 := ⟨_, rfl⟩
      rw [hR2] at PGF
      have PGF := hide PGF
      obtain ⟨V, hV⟩ : ∃ V, U.alloc (.cells #[.int .i64 pw, .int .i64 (R 0), .int .i64 (R 1), .int .i64 (R 2), .int .i64 (R 3), .int .i64 (R 4), .int .i64 (R 5), .int .i64 (R 6), .int .i64 (R 7)] 39) = V := ⟨_, rfl⟩
      have bO : Blk V U.heap.size 39 (stV pw R) := by rw [← hV]; exact Blk.new U 39 (stV pw R)
      have oV : Only [] U V := by rw [← hV]; exact (Only.refl [] U).alloc _
      have f0 : (U.alloc (.cells #[.int .i64 p, .int .i64 (R 0), .int .i64 (R 1), .int .i64 (R 2), .int .i64 (R 3), .int .i64 (R 4), .int .i64 (R 5), .int .i64 (R 6), .int .i64 (R 7)] 39)).cell? ⟨X + 1, 0, none⟩ = some (.int .i64 p) := (B3Z.out.alloc _).cell 0
      have BVI := HB3I.out.only oV (by simp)
      have BVZ := hide (B3Z.out.only oV (by simp))
      have BVX := hide (B3X.out.only oV (by simp))
      have OV := hide (OU.out.trans0 oV)
      have BO := hide bO
      clear bO oV B3Z B3X OU HB3I
      have i0 := BVI.cell 0
      have i1 := BVI.cell 1
      have i2 := BVI.cell 2
      have i3 := BVI.cell 3
      have i4 := BVI.cell 4
      clear BVI
      have j0d : (0 : Int) ≤ (d : Int) := by omega
      have j1d : (d : Int) < 8 := by omega
      have j0a : (0 : Int) ≤ (a : Int) := by omega
      have j1a : (a : Int) < 8 := by omega
      have za := (BVZ.out.cell (1 + a)).trans (stV_get p R a ha)
      have oc := (BO.out.cell (1 + d)).trans (stV_get pw R d hd)
      have fo := BO.out.frozen (1 + d)
      obtain ⟨V2, hV2⟩ : ∃ V2, V.setCell ⟨U.heap.size, 1 + d, none⟩ (.int .i64 (R a)) = V2 := ⟨_, rfl⟩
      have bO2 : Blk V2 U.heap.size 39 (stV pw R2) := by rw [← hV2, ← hR2]; have := BO.out.set_ (1 + d) (.int .i64 (R a)); rw [stV_set pw R _ d hd] at this; exact this
      have bX2 : Blk V2 (X + 1 + 1) 39 #[.int .i64 0, .int .i64 0, .int .i64 0, .int .i64 0, .int .i64 0, .int .i64 0, .int .i64 0, .int .i64 0, .int .i64 0] := by rw [← hV2]; exact BVX.out.far (by have := HUX.out; simp; omega) _
      have O2 : Only [U.heap.size] w V2 := by rw [← hV2]; exact (OV.out.mono (T := [U.heap.size]) (by simp)).setCell (.inl (by simp)) _
      clear hR2
      have HO2 := hide O2
      have HX2 := hide bX2
      have BO2 := hide bO2
      clear O2 bX2 bO2
      go_wp2_with fail
      clear z0 z1 z2 z3 z4 z5 z6 z7 z8 f0 i0 i4 hV hpw
      have CI := hide (fun Vx (ov : Only [U.heap.size] V Vx) => show Vx.cell? ⟨X, 1, none⟩ = some (.int .i64 (d : Int)) ∧ Vx.cell? ⟨X, 2, none⟩ = some (.int .i64 ((a : Nat))) ∧ True ∧ Vx.cell? ⟨X + 1, 1 + a, none⟩ = some (.int .i64 (R a)) from ⟨(ov.keep i1 (by have := HUX.out; simp; omega)), (ov.keep i2 (by have := HUX.out; simp; omega)), trivial, (ov.keep za (by have := HUX.out; simp; omega))⟩)
      have V3e : V.drew.setCell ⟨U.heap.size, 1 + d, none⟩ (.int .i64 (R a)) = V2.drew := by rw [← hV2]; rfl
      have hV3 := V3e
      have OV3 := hide (show Only [U.heap.size] V V2.drew from by rw [← hV2]; exact ((Only.refl _ V).setCell (p := ⟨U.heap.size, 1 + d, none⟩) (.inl (by simp)) _).drew)
      clear V3e
      refine wp_region_held_drew (S := (fun U1 => Only [U.heap.size] V U1)) (by kernel_rfl) ((Only.refl _ V).drew) (fun hHeld => ?_)
      refine wpAnyH_take (i := 0) (oi := ⟨some 70, _, _, _, _, _⟩) (v := ?vr2_1) rfl (by kernel_rfl) (by kernel_rfl) (by kernel_rfl) (fun _ _ _ h => h) (Or.inl ⟨by rfl, ?hyr2_1⟩) (by assumption) ?restr2_1
      case hyr2_1 => (intro Vx hSw; (try dsimp only at hSw); go_simp; first | done | (with_reducible rfl))
      try simp only [Act.put, List.setIfInBounds_toArray, List.set_cons_zero, List.set_cons_succ]
      refine wpAnyH_take (i := 1) (oi := ⟨some 71, _, _, _, _, _⟩) (v := ?vr2_2) rfl (by kernel_rfl) (by kernel_rfl) (by kernel_rfl) (fun _ _ _ h => h) (Or.inl ⟨by rfl, ?hyr2_2⟩) (by assumption) ?restr2_2
      case hyr2_2 => (intro Vx hSw; (try dsimp only at hSw); obtain ⟨c1, c2, c3, c4⟩ := CI.out Vx hSw; go_simp; first | done | (with_reducible rfl))
      try simp only [Act.put, List.setIfInBounds_toArray, List.set_cons_zero, List.set_cons_succ]
      refine wpAnyH_take (i := 2) (oi := ⟨some 72, _, _, _, _, _⟩) (v := ?vr2_3) rfl (by kernel_rfl) (by kernel_rfl) (by kernel_rfl) (fun _ _ _ h => h) (Or.inl ⟨by rfl, ?hyr2_3⟩) (by assumption) ?restr2_3
      case hyr2_3 => (intro Vx hSw; (try dsimp only at hSw); go_simp; first | done | (with_reducible rfl))
      try simp only [Act.put, List.setIfInBounds_toArray, List.set_cons_zero, List.set_cons_succ]
      refine wpAnyH_take (i := 3) (oi := ⟨some 73, _, _, _, _, _⟩) (v := ?vr2_4) rfl (by kernel_rfl) (by kernel_rfl) (by kernel_rfl) (fun _ _ _ h => h) (Or.inl ⟨by rfl, ?hyr2_4⟩) (by assumption) ?restr2_4
      case hyr2_4 => (intro Vx hSw; (try dsimp only at hSw); obtain ⟨c1, c2, c3, c4⟩ := CI.out Vx hSw; go_simp; first | done | (with_reducible rfl))
      try simp only [Act.put, List.setIfInBounds_toArray, List.set_cons_zero, List.set_cons_succ]
      refine wpAnyH_take (i := 4) (oi := ⟨some 74, _, _, _, _, _⟩) (v := ?vr2_5) rfl (by kernel_rfl) (by kernel_rfl) (by kernel_rfl) (fun _ _ _ h => h) (Or.inl ⟨by rfl, ?hyr2_5⟩) (by assumption) ?restr2_5
      case hyr2_5 => (intro Vx hSw; (try dsimp only at hSw); go_simp; first | done | (with_reducible rfl))
      try simp only [Act.put, List.setIfInBounds_toArray, List.set_cons_zero, List.set_cons_succ]
      refine wpAnyH_take (i := 5) (oi := ⟨some 75, _, _, _, _, _⟩) (v := ?vr2_6) rfl (by kernel_rfl) (by kernel_rfl) (by kernel_rfl) (fun _ _ _ h => h) (Or.inl ⟨by rfl, ?hyr2_6⟩) (by assumption) ?restr2_6
      case hyr2_6 => (intro Vx hSw; (try dsimp only at hSw); go_simp; first | done | (with_reducible rfl))
      try simp only [Act.put, List.setIfInBounds_toArray, List.set_cons_zero, List.set_cons_succ]
      refine wpAnyH_take (i := 6) (oi := ⟨some 76, _, _, _, _, _⟩) (v := ?vr2_7) rfl (by kernel_rfl) (by kernel_rfl) (by kernel_rfl) (fun _ _ _ h => h) (Or.inl ⟨by rfl, ?hyr2_7⟩) (by assumption) ?restr2_7
      case hyr2_7 => (intro Vx hSw; (try dsimp only at hSw); obtain ⟨c1, c2, c3, c4⟩ := CI.out Vx hSw; go_simp; first | done | (with_reducible rfl))
      try simp only [Act.put, List.setIfInBounds_toArray, List.set_cons_zero, List.set_cons_succ]
      refine wpAnyH_take (i := 7) (oi := ⟨some 77, _, _, _, _, _⟩) (v := ?vr2_8) rfl (by kernel_rfl) (by kernel_rfl) (by kernel_rfl) (fun _ _ _ h => h) (Or.inl ⟨by rfl, ?hyr2_8⟩) (by assumption) ?restr2_8
      case hyr2_8 => (intro Vx hSw; (try dsimp only at hSw); go_simp; first | done | (with_reducible rfl))
      try simp only [Act.put, List.setIfInBounds_toArray, List.set_cons_zero, List.set_cons_succ]
      refine wpAnyH_take (i := 8) (oi := ⟨some 78, _, _, _, _, _⟩) (v := ?vr2_9) rfl (by kernel_rfl) (by kernel_rfl) (by kernel_rfl) (fun _ _ _ h => h) (Or.inl ⟨by rfl, ?hyr2_9⟩) (by assumption) ?restr2_9
      case hyr2_9 => (intro Vx hSw; (try dsimp only at hSw); go_simp; first | done | (with_reducible rfl))
      try simp only [Act.put, List.setIfInBounds_toArray, List.set_cons_zero, List.set_cons_succ]
      refine wpAnyH_ready (rs := [9]) (by kernel_rfl) (by simp) ?_
      refine AllReadyH.cons (o := ⟨none, _, _, _, _, _⟩) rfl (fun K hK => ?_) (AllReadyH.nil)
      rw [if_pos (by rfl)]
      have t5 : V.drew.cell? ⟨U.heap.size, 1 + d, none⟩ = some (.int .i64 (R d)) := oc; have t6 : V.drew.frozen? ⟨U.heap.size, 1 + d, none⟩ = false := fo
      go_simp
      try rw [hV3]
      try dsimp only
      refine hK.out _ _ (OV3.out) (fun hHeld => ?_)
      clear hK K
      try simp only [Act.put, List.setIfInBounds_toArray, List.set_cons_zero, List.set_cons_succ]
      refine wpAnyH_done (by kernel_rfl) ?_ _
      have BO3 := hide (show Blk V2.drew U.heap.size 39 (stV pw R2) from BO2.out.drew)
      have HX3 := hide (show Blk V2.drew (X + 1 + 1) 39 #[.int .i64 0, .int .i64 0, .int .i64 0, .int .i64 0, .int .i64 0, .int .i64 0, .int .i64 0, .int .i64 0, .int .i64 0] from HX2.out.drew)
      have HO3 := hide (show Only [U.heap.size] w V2.drew from HO2.out.drew)
      obtain ⟨V3, hV3'⟩ : ∃ V3, V2.drew = V3 := ⟨_, rfl⟩
      rw [hV3'] at BO3 HX3 HO3 ⊢
      clear hV3' hV3 OV3 hV2 BO2 HX2 HO2 CI hHeld oc fo
      have o0 : (V3).cell? ⟨U.heap.size, 0, none⟩ = some (.int .i64 pw) := BO3.out.cell 0
      have o1 : (V3).cell? ⟨U.heap.size, 1, none⟩ = some (.int .i64 (R2 0)) := BO3.out.cell 1
      have o2 : (V3).cell? ⟨U.heap.size, 2, none⟩ = some (.int .i64 (R2 1)) := BO3.out.cell 2
      have o3 : (V3).cell? ⟨U.heap.size, 3, none⟩ = some (.int .i64 (R2 2)) := BO3.out.cell 3
      have o4 : (V3).cell? ⟨U.heap.size, 4, none⟩ = some (.int .i64 (R2 3)) := BO3.out.cell 4
      have o5 : (V3).cell? ⟨U.heap.size, 5, none⟩ = some (.int .i64 (R2 4)) := BO3.out.cell 5
      have o6 : (V3).cell? ⟨U.heap.size, 6, none⟩ = some (.int .i64 (R2 5)) := BO3.out.cell 6
      have o7 : (V3).cell? ⟨U.heap.size, 7, none⟩ = some (.int .i64 (R2 6)) := BO3.out.cell 7
      have o8 : (V3).cell? ⟨U.heap.size, 8, none⟩ = some (.int .i64 (R2 7)) := BO3.out.cell 8
      have x0 : (V3).cell? ⟨X + 1 + 1, 0, none⟩ = some (.int .i64 0) := HX3.out.cell 0
      have y0 := HX3.out.frozen 0
      have x1 : (V3).cell? ⟨X + 1 + 1, 1, none⟩ = some (.int .i64 0) := HX3.out.cell 1
      have y1 := HX3.out.frozen 1
      have x2 : (V3).cell? ⟨X + 1 + 1, 2, none⟩ = some (.int .i64 0) := HX3.out.cell 2
      have y2 := HX3.out.frozen 2
      have x3 : (V3).cell? ⟨X + 1 + 1, 3, none⟩ = some (.int .i64 0) := HX3.out.cell 3
      have y3 := HX3.out.frozen 3
      have x4 : (V3).cell? ⟨X + 1 + 1, 4, none⟩ = some (.int .i64 0) := HX3.out.cell 4
      have y4 := HX3.out.frozen 4
      have x5 : (V3).cell? ⟨X + 1 + 1, 5, none⟩ = some (.int .i64 0) := HX3.out.cell 5
      have y5 := HX3.out.frozen 5
      have x6 : (V3).cell? ⟨X + 1 + 1, 6, none⟩ = some (.int .i64 0) := HX3.out.cell 6
      have y6 := HX3.out.frozen 6
      have x7 : (V3).cell? ⟨X + 1 + 1, 7, none⟩ = some (.int .i64 0) := HX3.out.cell 7
      have y7 := HX3.out.frozen 7
      have x8 : (V3).cell? ⟨X + 1 + 1, 8, none⟩ = some (.int .i64 0) := HX3.out.cell 8
      have y8 := HX3.out.frozen 8
      go_wp2_with fail
      rw [PGF.out]
      have BFF := (((((((((HX3.out).set_ 0 (.int .i64 pw)).set_ 1 (.int .i64 (R2 0))).set_ 2 (.int .i64 (R2 1))).set_ 3 (.int .i64 (R2 2))).set_ 4 (.int .i64 (R2 3))).set_ 5 (.int .i64 (R2 4))).set_ 6 (.int .i64 (R2 5))).set_ 7 (.int .i64 (R2 6))).set_ 8 (.int .i64 (R2 7))
      refine bodyPost_ret (v := .tuple #[.agg (stV pw (R2)), .bool true]) (results_cell2b Tryd.results15 rfl rfl (load39 (p := pw) (R := R2) (by simpa [stV] using BFF))) rfl ⟨rfl, ?_⟩
      have OFF := (((((((((((HO3.out.mono (T := [U.heap.size, X + 1 + 1]) (by simp))).setCell (p := ⟨X + 1 + 1, 0, none⟩) (.inl (by simp)) (.int .i64 pw)).setCell (p := ⟨X + 1 + 1, 1, none⟩) (.inl (by simp)) (.int .i64 (R2 0))).setCell (p := ⟨X + 1 + 1, 2, none⟩) (.inl (by simp)) (.int .i64 (R2 1))).setCell (p := ⟨X + 1 + 1, 3, none⟩) (.inl (by simp)) (.int .i64 (R2 2))).setCell (p := ⟨X + 1 + 1, 4, none⟩) (.inl (by simp)) (.int .i64 (R2 3))).setCell (p := ⟨X + 1 + 1, 5, none⟩) (.inl (by simp)) (.int .i64 (R2 4))).setCell (p := ⟨X + 1 + 1, 6, none⟩) (.inl (by simp)) (.int .i64 (R2 5))).setCell (p := ⟨X + 1 + 1, 7, none⟩) (.inl (by simp)) (.int .i64 (R2 6))).setCell (p := ⟨X + 1 + 1, 8, none⟩) (.inl (by simp)) (.int .i64 (R2 7))).mono (T := []) (fun x hx => .inr (by have := HX.out; have := HUX.out; simp at hx; omega))
      first | exact OFF | exact OFF.drew
set_option maxHeartbeats 8000000 in
theorem rstep3 (d : Nat) (hd : d < 8) (a : Nat) (ha : a < 8) (b : Nat) (hb : b < 8) (imm : Int) (p : Int) (R : Nat → Int) (w : World) : Calls Tryd.prog 15 #[.agg #[.int .i64 (3), .int .i64 ((d : Nat) : Int), .int .i64 ((a : Nat) : Int), .int .i64 ((b : Nat) : Int), .int .i64 imm], .agg (stV p R)] w fun e w' => e = .returned (stepV ⟨3, ((d : Nat) : Int), ((a : Nat) : Int), ((b : Nat) : Int), imm⟩ p R) ∧ Only [] w w' := by
  have PGF := hide (show stepV ⟨3, ((d : Nat) : Int), ((a : Nat) : Int), ((b : Nat) : Int), imm⟩ p R = .tuple #[.agg (stV (IntKind.i64.wrap (p + 1)) (upR R d (IntKind.i64.wrap (R a + R b)))), .bool true] from by
    have h1 : stepOk ⟨3, ((d : Nat) : Int), ((a : Nat) : Int), ((b : Nat) : Int), imm⟩ = true := by unfold stepOk inReg; simp [shp] <;> omega
    have h2 : stepPC ⟨3, ((d : Nat) : Int), ((a : Nat) : Int), ((b : Nat) : Int), imm⟩ p R = (IntKind.i64.wrap (p + 1)) := by unfold stepPC; simp
    have h3 : stepR ⟨3, ((d : Nat) : Int), ((a : Nat) : Int), ((b : Nat) : Int), imm⟩ R = (upR R d (IntKind.i64.wrap (R a + R b))) := by unfold stepR; simp
    unfold stepV
    rw [h1, h2, h3]
    rfl)
  have NM := hide (fun W => show Calls Tryd.prog 35 #[.int .i64 3] W fun e w' => e = .returned (.tuple #[.agg #[.bool true, .bool true, .bool true], .int .i64 (0), .bool true]) ∧ Only [] W w' from named_ok 3 (by decide) W)
  have HF := hide (show okF true (nB true true true) (lB ((d : Nat) : Int) ((a : Nat) : Int) ((b : Nat) : Int)) 3 = true by rw [okF_three]; unfold inReg; simp <;> omega)
  obtain ⟨X, hX⟩ : ∃ X, w.heap.size = X := ⟨_, rfl⟩
  obtain ⟨W, hW⟩ : ∃ W, ((w.alloc (.cells #[.int .i64 (3), .int .i64 ((d : Nat) : Int), .int .i64 ((a : Nat) : Int), .int .i64 ((b : Nat) : Int), .int .i64 imm] 24)).alloc (.cells (stV p R) 39)).alloc (.cells #[.int .i64 0, .int .i64 0, .int .i64 0, .int .i64 0, .int .i64 0, .int .i64 0, .int .i64 0, .int .i64 0, .int .i64 0] 39) = W := ⟨_, rfl⟩
  have oW : Only [] w W := by rw [← hW]; exact (((Only.refl [] w).alloc _).alloc _).alloc _
  have bI : Blk W X 24 #[.int .i64 (3), .int .i64 ((d : Nat) : Int), .int .i64 ((a : Nat) : Int), .int .i64 ((b : Nat) : Int), .int .i64 imm] := by rw [← hW, ← hX]; exact ((Blk.new w 24 _).alloc _).alloc _
  have bZ : Blk W (X + 1) 39 (stV p R) := by
    have := (Blk.new (w.alloc (.cells #[.int .i64 (3), .int .i64 ((d : Nat) : Int), .int .i64 ((a : Nat) : Int), .int .i64 ((b : Nat) : Int), .int .i64 imm] 24)) 39 (stV p R)).alloc (.cells #[.int .i64 0, .int .i64 0, .int .i64 0, .int .i64 0, .int .i64 0, .int .i64 0, .int .i64 0, .int .i64 0, .int .i64 0] 39)
    rw [World.size_alloc, hX, hW] at this
    exact this
  have bX : Blk W (X + 1 + 1) 39 #[.int .i64 0, .int .i64 0, .int .i64 0, .int .i64 0, .int .i64 0, .int .i64 0, .int .i64 0, .int .i64 0, .int .i64 0] := by
    have := Blk.new ((w.alloc (.cells #[.int .i64 (3), .int .i64 ((d : Nat) : Int), .int .i64 ((a : Nat) : Int), .int .i64 ((b : Nat) : Int), .int .i64 imm] 24)).alloc (.cells (stV p R) 39)) 39 #[.int .i64 0, .int .i64 0, .int .i64 0, .int .i64 0, .int .i64 0, .int .i64 0, .int .i64 0, .int .i64 0, .int .i64 0]
    rw [World.size_alloc, World.size_alloc, hX, hW] at this
    exact this
  have t0 : W.cell? ⟨X, 0, none⟩ = some (.int .i64 (3)) := bI.cell 0
  rw [← hW, ← hX] at t0
  unfold stV at t0 hW
  have HX := hide hX
  have HWX := hide (show X + 3 ≤ W.heap.size by have := bX.lt; omega)
  have OW := hide oW
  have BI := hide bI
  have BZ := hide bZ
  have BX := hide bX
  have HW := hide hW
  clear oW bI bZ bX hX hW
  have hst : stV p R = #[.int .i64 p, .int .i64 (R 0), .int .i64 (R 1), .int .i64 (R 2), .int .i64 (R 3), .int .i64 (R 4), .int .i64 (R 5), .int .i64 (R 6), .int .i64 (R 7)] := rfl
  rw [hst]
  clear hst
  go_enter Tryd.func15, Tryd.ntmps15
  go_wp2_with (go_at_call 35; rw [HX.out, HW.out]; (with_reducible refine (NM.out _).mono ?_); rintro e u1 ⟨rfl, o1⟩; have o2 := o1.alloc (.cells #[.bool true, .bool true, .bool true] 57); have b2 := BI.out.only o2 (by simp); have i1 := b2.cell 1; have i2 := b2.cell 2; have i3 := b2.cell 3; have O1 := hide o1; clear t0 o1 o2 b2)
  clear i1 i2 i3
  obtain ⟨Y, hY⟩ : ∃ Y, u1.heap.size = Y := ⟨_, rfl⟩
  have bN := (Blk.new u1 57 #[.bool true, .bool true, .bool true]).alloc (.cells #[.int .i64 ((d : Nat) : Int), .int .i64 ((a : Nat) : Int), .int .i64 ((b : Nat) : Int)] 59)
  have bL := Blk.new (u1.alloc (.cells #[.bool true, .bool true, .bool true] 57)) 59 #[.int .i64 ((d : Nat) : Int), .int .i64 ((a : Nat) : Int), .int .i64 ((b : Nat) : Int)]
  rw [World.size_alloc, hY] at bL
  rw [hY] at bN ⊢
  have o3 := (O1.out.alloc (.cells #[.bool true, .bool true, .bool true] 57)).alloc (.cells #[.int .i64 ((d : Nat) : Int), .int .i64 ((a : Nat) : Int), .int .i64 ((b : Nat) : Int)] 59)
  obtain ⟨U, hU⟩ : ∃ U, (u1.alloc (.cells #[.bool true, .bool true, .bool true] 57)).alloc (.cells #[.int .i64 ((d : Nat) : Int), .int .i64 ((a : Nat) : Int), .int .i64 ((b : Nat) : Int)] 59) = U := ⟨_, rfl⟩
  rw [hU] at bN bL o3 ⊢
  have B3I := BI.out.only o3 (by simp)
  have B3Z := hide (BZ.out.only o3 (by simp))
  have B3X := hide (BX.out.only o3 (by simp))
  have OU := hide (OW.out.trans0 o3)
  have CN := hide (fun q (hq : q < 3) => (bN.cell q).trans (nB_get true true true q hq))
  have CL := hide (fun q (hq : q < 3) => (bL.cell q).trans (lB_get ((d : Nat) : Int) ((a : Nat) : Int) ((b : Nat) : Int) q hq))
  have HUX := hide (show X + 3 ≤ U.heap.size by have := o3.size; have := HWX.out; omega)
  have HB3I := hide B3I
  clear hU hY bN bL o3 O1 BI BZ BX OW NM HW B3I
  go_loopw [8, 10] (fun vo vi wr => ∃ q : Nat, q ≤ 3 ∧ vi = .int .i64 q ∧ vo = .bool (okF true (nB true true true) (lB ((d : Nat) : Int) ((a : Nat) : Int) ((b : Nat) : Int)) q) ∧ U = wr) (fun _ vi _ => 3 - (intOf vi).toNat)
  case atStart => exact ⟨0, by omega, rfl, rfl, (by first | rfl | trivial)⟩
  case round =>
    obtain ⟨q, hq, rfl, rfl, hw⟩ := hrel
    obtain rfl := hw
    by_cases hq3 : q < 3
    · have cN := CN.out q hq3
      have cL := CL.out q hq3
      have hst : okF true (nB true true true) (lB ((d : Nat) : Int) ((a : Nat) : Int) ((b : Nat) : Int)) (q + 1) = (okF true (nB true true true) (lB ((d : Nat) : Int) ((a : Nat) : Int) ((b : Nat) : Int)) q && inReg ((nB true true true) q) ((lB ((d : Nat) : Int) ((a : Nat) : Int) ((b : Nat) : Int)) q)) := rfl
      obtain ⟨b0, hb0⟩ : ∃ b0, okF true (nB true true true) (lB ((d : Nat) : Int) ((a : Nat) : Int) ((b : Nat) : Int)) q = b0 := ⟨_, rfl⟩
      obtain ⟨nq, hnq⟩ : ∃ nq, (nB true true true) q = nq := ⟨_, rfl⟩
      obtain ⟨lq, hlq⟩ : ∃ lq, (lB ((d : Nat) : Int) ((a : Nat) : Int) ((b : Nat) : Int)) q = lq := ⟨_, rfl⟩
      rw [hb0, hnq, hlq] at hst
      rw [hnq] at cN
      rw [hlq] at cL
      rw [hb0]
      have HST := hide hst
      have j0 : (q : Int) < 3 := by omega
      have j1 : (0 : Int) ≤ (q : Int) := by omega
      clear hb0 hnq hlq hst
      cases b0
      · go_wp2_with fail
        go_roundw
        case rel => exact ⟨q + 1, by omega, by go_num, by rw [HST.out]; rfl, (by first | rfl | trivial)⟩
        case measure => simp [intOf]; omega
      cases nq
      · go_wp2_with fail
        go_roundw
        case rel => exact ⟨q + 1, by omega, by go_num, by rw [HST.out]; rfl, (by first | rfl | trivial)⟩
        case measure => simp [intOf]; omega
      by_cases h0 : 0 ≤ lq
      · by_cases h7 : lq ≤ 7
        · have e0 : decide (0 ≤ lq) = true := decide_eq_true h0
          have e7 : decide (lq ≤ 7) = true := decide_eq_true h7
          go_wp2_with fail
          go_roundw
          case rel => exact ⟨q + 1, by omega, by go_num, by rw [HST.out]; simp [inReg, h0, h7], (by first | rfl | trivial)⟩
          case measure => simp [intOf]; omega
        · have e0 : decide (0 ≤ lq) = true := decide_eq_true h0
          have e7 : decide (lq ≤ 7) = false := decide_eq_false h7
          go_wp2_with fail
          go_roundw
          case rel => exact ⟨q + 1, by omega, by go_num, by rw [HST.out]; simp [inReg, h0, h7], (by first | rfl | trivial)⟩
          case measure => simp [intOf]; omega
      · have e0 : decide (0 ≤ lq) = false := decide_eq_false h0
        go_wp2_with fail
        go_roundw
        case rel => exact ⟨q + 1, by omega, by go_num, by rw [HST.out]; simp [inReg, h0], (by first | rfl | trivial)⟩
        case measure => simp [intOf]; omega
    · obtain rfl : q = 3 := by omega
      rw [HF.out]
      clear CN CL HF
      have z0 : (U).cell? ⟨X + 1, 0, none⟩ = some (.int .i64 p) := B3Z.out.cell 0
      have z1 : (U).cell? ⟨X + 1, 1, none⟩ = some (.int .i64 (R 0)) := B3Z.out.cell 1
      have z2 : (U).cell? ⟨X + 1, 2, none⟩ = some (.int .i64 (R 1)) := B3Z.out.cell 2
      have z3 : (U).cell? ⟨X + 1, 3, none⟩ = some (.int .i64 (R 2)) := B3Z.out.cell 3
      have z4 : (U).cell? ⟨X + 1, 4, none⟩ = some (.int .i64 (R 3)) := B3Z.out.cell 4
      have z5 : (U).cell? ⟨X + 1, 5, none⟩ = some (.int .i64 (R 4)) := B3Z.out.cell 5
      have z6 : (U).cell? ⟨X + 1, 6, none⟩ = some (.int .i64 (R 5)) := B3Z.out.cell 6
      have z7 : (U).cell? ⟨X + 1, 7, none⟩ = some (.int .i64 (R 6)) := B3Z.out.cell 7
      have z8 : (U).cell? ⟨X + 1, 8, none⟩ = some (.int .i64 (R 7)) := B3Z.out.cell 8
      obtain ⟨pw, hpw⟩ : ∃ pw, IntKind.i64.wrap (p + 1) = pw := ⟨_, rfl⟩
      have PGF := PGF.out
      obtain ⟨vv, hvv⟩ : ∃ vv, IntKind.i64.wrap (R a + R b) = vv := ⟨_, rfl⟩
      rw [hvv] at PGF
      rw [hpw] at PGF
      obtain ⟨R2, hR2⟩ : ∃ R2, upR R d vv = R2 := ⟨_, rfl⟩
      rw [hR2] at PGF
      have PGF := hide PGF
      obtain ⟨V, hV⟩ : ∃ V, U.alloc (.cells #[.int .i64 pw, .int .i64 (R 0), .int .i64 (R 1), .int .i64 (R 2), .int .i64 (R 3), .int .i64 (R 4), .int .i64 (R 5), .int .i64 (R 6), .int .i64 (R 7)] 39) = V := ⟨_, rfl⟩
      have bO : Blk V U.heap.size 39 (stV pw R) := by rw [← hV]; exact Blk.new U 39 (stV pw R)
      have oV : Only [] U V := by rw [← hV]; exact (Only.refl [] U).alloc _
      have f0 : (U.alloc (.cells #[.int .i64 p, .int .i64 (R 0), .int .i64 (R 1), .int .i64 (R 2), .int .i64 (R 3), .int .i64 (R 4), .int .i64 (R 5), .int .i64 (R 6), .int .i64 (R 7)] 39)).cell? ⟨X + 1, 0, none⟩ = some (.int .i64 p) := (B3Z.out.alloc _).cell 0
      have BVI := HB3I.out.only oV (by simp)
      have BVZ := hide (B3Z.out.only oV (by simp))
      have BVX := hide (B3X.out.only oV (by simp))
      have OV := hide (OU.out.trans0 oV)
      have BO := hide bO
      clear bO oV B3Z B3X OU HB3I
      have i0 := BVI.cell 0
      have i1 := BVI.cell 1
      have i2 := BVI.cell 2
      have i3 := BVI.cell 3
      have i4 := BVI.cell 4
      clear BVI
      have j0d : (0 : Int) ≤ (d : Int) := by omega
      have j1d : (d : Int) < 8 := by omega
      have j0a : (0 : Int) ≤ (a : Int) := by omega
      have j1a : (a : Int) < 8 := by omega
      have j0b : (0 : Int) ≤ (b : Int) := by omega
      have j1b : (b : Int) < 8 := by omega
      have za := (BVZ.out.cell (1 + a)).trans (stV_get p R a ha)
      have zb := (BVZ.out.cell (1 + b)).trans (stV_get p R b hb)
      have oc := (BO.out.cell (1 + d)).trans (stV_get pw R d hd)
      have fo := BO.out.frozen (1 + d)
      obtain ⟨V2, hV2⟩ : ∃ V2, V.setCell ⟨U.heap.size, 1 + d, none⟩ (.int .i64 vv) = V2 := ⟨_, rfl⟩
      have bO2 : Blk V2 U.heap.size 39 (stV pw R2) := by rw [← hV2, ← hR2]; have := BO.out.set_ (1 + d) (.int .i64 vv); rw [stV_set pw R _ d hd] at this; exact this
      have bX2 : Blk V2 (X + 1 + 1) 39 #[.int .i64 0, .int .i64 0, .int .i64 0, .int .i64 0, .int .i64 0, .int .i64 0, .int .i64 0, .int .i64 0, .int .i64 0] := by rw [← hV2]; exact BVX.out.far (by have := HUX.out; simp; omega) _
      have O2 : Only [U.heap.size] w V2 := by rw [← hV2]; exact (OV.out.mono (T := [U.heap.size]) (by simp)).setCell (.inl (by simp)) _
      clear hR2
      have HO2 := hide O2
      have HX2 := hide bX2
      have BO2 := hide bO2
      clear O2 bX2 bO2
      go_wp2_with fail
      clear z0 z1 z2 z3 z4 z5 z6 z7 z8 f0 i0 i4 hV hpw
      have CI := hide (fun Vx (ov : Only [U.heap.size] V Vx) => show Vx.cell? ⟨X, 1, none⟩ = some (.int .i64 (d : Int)) ∧ Vx.cell? ⟨X, 2, none⟩ = some (.int .i64 ((a : Nat))) ∧ (Vx.cell? ⟨X, 3, none⟩ = some (.int .i64 (b : Int)) ∧ Vx.cell? ⟨X + 1, 1 + b, none⟩ = some (.int .i64 (R b))) ∧ Vx.cell? ⟨X + 1, 1 + a, none⟩ = some (.int .i64 (R a)) from ⟨(ov.keep i1 (by have := HUX.out; simp; omega)), (ov.keep i2 (by have := HUX.out; simp; omega)), ⟨(ov.keep i3 (by have := HUX.out; simp; omega)), (ov.keep zb (by have := HUX.out; simp; omega))⟩, (ov.keep za (by have := HUX.out; simp; omega))⟩)
      have V3e : V.drew.setCell ⟨U.heap.size, 1 + d, none⟩ (.int .i64 vv) = V2.drew := by rw [← hV2]; rfl
      have hV3 := V3e
      have OV3 := hide (show Only [U.heap.size] V V2.drew from by rw [← hV2]; exact ((Only.refl _ V).setCell (p := ⟨U.heap.size, 1 + d, none⟩) (.inl (by simp)) _).drew)
      clear V3e
      refine wp_region_held_drew (S := (fun U1 => Only [U.heap.size] V U1)) (by kernel_rfl) ((Only.refl _ V).drew) (fun hHeld => ?_)
      refine wpAnyH_take (i := 0) (oi := ⟨some 81, _, _, _, _, _⟩) (v := ?vr3_1) rfl (by kernel_rfl) (by kernel_rfl) (by kernel_rfl) (fun _ _ _ h => h) (Or.inl ⟨by rfl, ?hyr3_1⟩) (by assumption) ?restr3_1
      case hyr3_1 => (intro Vx hSw; (try dsimp only at hSw); go_simp; first | done | (with_reducible rfl))
      try simp only [Act.put, List.setIfInBounds_toArray, List.set_cons_zero, List.set_cons_succ]
      refine wpAnyH_take (i := 1) (oi := ⟨some 82, _, _, _, _, _⟩) (v := ?vr3_2) rfl (by kernel_rfl) (by kernel_rfl) (by kernel_rfl) (fun _ _ _ h => h) (Or.inl ⟨by rfl, ?hyr3_2⟩) (by assumption) ?restr3_2
      case hyr3_2 => (intro Vx hSw; (try dsimp only at hSw); obtain ⟨c1, c2, ⟨c3, c5⟩, c4⟩ := CI.out Vx hSw; go_simp; first | done | (with_reducible rfl))
      try simp only [Act.put, List.setIfInBounds_toArray, List.set_cons_zero, List.set_cons_succ]
      refine wpAnyH_take (i := 2) (oi := ⟨some 83, _, _, _, _, _⟩) (v := ?vr3_3) rfl (by kernel_rfl) (by kernel_rfl) (by kernel_rfl) (fun _ _ _ h => h) (Or.inl ⟨by rfl, ?hyr3_3⟩) (by assumption) ?restr3_3
      case hyr3_3 => (intro Vx hSw; (try dsimp only at hSw); go_simp; first | done | (with_reducible rfl))
      try simp only [Act.put, List.setIfInBounds_toArray, List.set_cons_zero, List.set_cons_succ]
      refine wpAnyH_take (i := 3) (oi := ⟨some 84, _, _, _, _, _⟩) (v := ?vr3_4) rfl (by kernel_rfl) (by kernel_rfl) (by kernel_rfl) (fun _ _ _ h => h) (Or.inl ⟨by rfl, ?hyr3_4⟩) (by assumption) ?restr3_4
      case hyr3_4 => (intro Vx hSw; (try dsimp only at hSw); obtain ⟨c1, c2, ⟨c3, c5⟩, c4⟩ := CI.out Vx hSw; go_simp; first | done | (with_reducible rfl))
      try simp only [Act.put, List.setIfInBounds_toArray, List.set_cons_zero, List.set_cons_succ]
      refine wpAnyH_take (i := 4) (oi := ⟨some 85, _, _, _, _, _⟩) (v := ?vr3_5) rfl (by kernel_rfl) (by kernel_rfl) (by kernel_rfl) (fun _ _ _ h => h) (Or.inl ⟨by rfl, ?hyr3_5⟩) (by assumption) ?restr3_5
      case hyr3_5 => (intro Vx hSw; (try dsimp only at hSw); go_simp; first | done | (with_reducible rfl))
      try simp only [Act.put, List.setIfInBounds_toArray, List.set_cons_zero, List.set_cons_succ]
      refine wpAnyH_take (i := 5) (oi := ⟨some 86, _, _, _, _, _⟩) (v := ?vr3_6) rfl (by kernel_rfl) (by kernel_rfl) (by kernel_rfl) (fun _ _ _ h => h) (Or.inl ⟨by rfl, ?hyr3_6⟩) (by assumption) ?restr3_6
      case hyr3_6 => (intro Vx hSw; (try dsimp only at hSw); go_simp; first | done | (with_reducible rfl))
      try simp only [Act.put, List.setIfInBounds_toArray, List.set_cons_zero, List.set_cons_succ]
      refine wpAnyH_take (i := 6) (oi := ⟨some 87, _, _, _, _, _⟩) (v := ?vr3_7) rfl (by kernel_rfl) (by kernel_rfl) (by kernel_rfl) (fun _ _ _ h => h) (Or.inl ⟨by rfl, ?hyr3_7⟩) (by assumption) ?restr3_7
      case hyr3_7 => (intro Vx hSw; (try dsimp only at hSw); obtain ⟨c1, c2, ⟨c3, c5⟩, c4⟩ := CI.out Vx hSw; go_simp; first | done | (with_reducible rfl))
      try simp only [Act.put, List.setIfInBounds_toArray, List.set_cons_zero, List.set_cons_succ]
      refine wpAnyH_take (i := 7) (oi := ⟨some 88, _, _, _, _, _⟩) (v := ?vr3_8) rfl (by kernel_rfl) (by kernel_rfl) (by kernel_rfl) (fun _ _ _ h => h) (Or.inl ⟨by rfl, ?hyr3_8⟩) (by assumption) ?restr3_8
      case hyr3_8 => (intro Vx hSw; (try dsimp only at hSw); go_simp; first | done | (with_reducible rfl))
      try simp only [Act.put, List.setIfInBounds_toArray, List.set_cons_zero, List.set_cons_succ]
      refine wpAnyH_take (i := 8) (oi := ⟨some 89, _, _, _, _, _⟩) (v := ?vr3_9) rfl (by kernel_rfl) (by kernel_rfl) (by kernel_rfl) (fun _ _ _ h => h) (Or.inl ⟨by rfl, ?hyr3_9⟩) (by assumption) ?restr3_9
      case hyr3_9 => (intro Vx hSw; (try dsimp only at hSw); obtain ⟨c1, c2, ⟨c3, c5⟩, c4⟩ := CI.out Vx hSw; go_simp; first | done | (with_reducible rfl))
      try simp only [Act.put, List.setIfInBounds_toArray, List.set_cons_zero, List.set_cons_succ]
      refine wpAnyH_take (i := 9) (oi := ⟨some 90, _, _, _, _, _⟩) (v := ?vr3_10) rfl (by kernel_rfl) (by kernel_rfl) (by kernel_rfl) (fun _ _ _ h => h) (Or.inl ⟨by rfl, ?hyr3_10⟩) (by assumption) ?restr3_10
      case hyr3_10 => (intro Vx hSw; (try dsimp only at hSw); go_simp; first | done | (with_reducible rfl))
      try simp only [Act.put, List.setIfInBounds_toArray, List.set_cons_zero, List.set_cons_succ]
      refine wpAnyH_take (i := 10) (oi := ⟨some 91, _, _, _, _, _⟩) (v := ?vr3_11) rfl (by kernel_rfl) (by kernel_rfl) (by kernel_rfl) (fun _ _ _ h => h) (Or.inl ⟨by rfl, ?hyr3_11⟩) (by assumption) ?restr3_11
      case hyr3_11 => (intro Vx hSw; (try dsimp only at hSw); go_simp; first | done | (with_reducible rfl))
      try simp only [Act.put, List.setIfInBounds_toArray, List.set_cons_zero, List.set_cons_succ]
      refine wpAnyH_take (i := 11) (oi := ⟨some 92, _, _, _, _, _⟩) (v := ?vr3_12) rfl (by kernel_rfl) (by kernel_rfl) (by kernel_rfl) (fun _ _ _ h => h) (Or.inl ⟨by rfl, ?hyr3_12⟩) (by assumption) ?restr3_12
      case hyr3_12 => (intro Vx hSw; (try dsimp only at hSw); obtain ⟨c1, c2, ⟨c3, c5⟩, c4⟩ := CI.out Vx hSw; go_simp; first | done | (with_reducible rfl))
      try simp only [Act.put, List.setIfInBounds_toArray, List.set_cons_zero, List.set_cons_succ]
      refine wpAnyH_take (i := 12) (oi := ⟨some 93, _, _, _, _, _⟩) (v := ?vr3_13) rfl (by kernel_rfl) (by kernel_rfl) (by kernel_rfl) (fun _ _ _ h => h) (Or.inl ⟨by rfl, ?hyr3_13⟩) (by assumption) ?restr3_13
      case hyr3_13 => (intro Vx hSw; (try dsimp only at hSw); go_simp; first | done | (with_reducible rfl))
      try simp only [Act.put, List.setIfInBounds_toArray, List.set_cons_zero, List.set_cons_succ]
      refine wpAnyH_take (i := 13) (oi := ⟨some 94, _, _, _, _, _⟩) (v := ?vr3_14) rfl (by kernel_rfl) (by kernel_rfl) (by kernel_rfl) (fun _ _ _ h => h) (Or.inl ⟨by rfl, ?hyr3_14⟩) (by assumption) ?restr3_14
      case hyr3_14 => (intro Vx hSw; (try dsimp only at hSw); go_simp; first | done | (with_reducible rfl))
      try simp only [Act.put, List.setIfInBounds_toArray, List.set_cons_zero, List.set_cons_succ]
      refine wpAnyH_take (i := 14) (oi := ⟨some 95, _, _, _, _, _⟩) (v := ?vr3_15) rfl (by kernel_rfl) (by kernel_rfl) (by kernel_rfl) (fun _ _ _ h => h) (Or.inl ⟨by rfl, ?hyr3_15⟩) (by assumption) ?restr3_15
      case hyr3_15 => (intro Vx hSw; (try dsimp only at hSw); go_simp; first | done | (with_reducible rfl))
      try simp only [Act.put, List.setIfInBounds_toArray, List.set_cons_zero, List.set_cons_succ]
      refine wpAnyH_ready (rs := [15]) (by kernel_rfl) (by simp) ?_
      refine AllReadyH.cons (o := ⟨none, _, _, _, _, _⟩) rfl (fun K hK => ?_) (AllReadyH.nil)
      rw [if_pos (by rfl)]
      have t5 : V.drew.cell? ⟨U.heap.size, 1 + d, none⟩ = some (.int .i64 (R d)) := oc; have t6 : V.drew.frozen? ⟨U.heap.size, 1 + d, none⟩ = false := fo
      go_simp
      try rw [hV3]
      try dsimp only
      refine hK.out _ _ (OV3.out) (fun hHeld => ?_)
      clear hK K
      try simp only [Act.put, List.setIfInBounds_toArray, List.set_cons_zero, List.set_cons_succ]
      refine wpAnyH_done (by kernel_rfl) ?_ _
      have BO3 := hide (show Blk V2.drew U.heap.size 39 (stV pw R2) from BO2.out.drew)
      have HX3 := hide (show Blk V2.drew (X + 1 + 1) 39 #[.int .i64 0, .int .i64 0, .int .i64 0, .int .i64 0, .int .i64 0, .int .i64 0, .int .i64 0, .int .i64 0, .int .i64 0] from HX2.out.drew)
      have HO3 := hide (show Only [U.heap.size] w V2.drew from HO2.out.drew)
      obtain ⟨V3, hV3'⟩ : ∃ V3, V2.drew = V3 := ⟨_, rfl⟩
      rw [hV3'] at BO3 HX3 HO3 ⊢
      clear hV3' hV3 OV3 hV2 BO2 HX2 HO2 CI hHeld oc fo
      have o0 : (V3).cell? ⟨U.heap.size, 0, none⟩ = some (.int .i64 pw) := BO3.out.cell 0
      have o1 : (V3).cell? ⟨U.heap.size, 1, none⟩ = some (.int .i64 (R2 0)) := BO3.out.cell 1
      have o2 : (V3).cell? ⟨U.heap.size, 2, none⟩ = some (.int .i64 (R2 1)) := BO3.out.cell 2
      have o3 : (V3).cell? ⟨U.heap.size, 3, none⟩ = some (.int .i64 (R2 2)) := BO3.out.cell 3
      have o4 : (V3).cell? ⟨U.heap.size, 4, none⟩ = some (.int .i64 (R2 3)) := BO3.out.cell 4
      have o5 : (V3).cell? ⟨U.heap.size, 5, none⟩ = some (.int .i64 (R2 4)) := BO3.out.cell 5
      have o6 : (V3).cell? ⟨U.heap.size, 6, none⟩ = some (.int .i64 (R2 5)) := BO3.out.cell 6
      have o7 : (V3).cell? ⟨U.heap.size, 7, none⟩ = some (.int .i64 (R2 6)) := BO3.out.cell 7
      have o8 : (V3).cell? ⟨U.heap.size, 8, none⟩ = some (.int .i64 (R2 7)) := BO3.out.cell 8
      have x0 : (V3).cell? ⟨X + 1 + 1, 0, none⟩ = some (.int .i64 0) := HX3.out.cell 0
      have y0 := HX3.out.frozen 0
      have x1 : (V3).cell? ⟨X + 1 + 1, 1, none⟩ = some (.int .i64 0) := HX3.out.cell 1
      have y1 := HX3.out.frozen 1
      have x2 : (V3).cell? ⟨X + 1 + 1, 2, none⟩ = some (.int .i64 0) := HX3.out.cell 2
      have y2 := HX3.out.frozen 2
      have x3 : (V3).cell? ⟨X + 1 + 1, 3, none⟩ = some (.int .i64 0) := HX3.out.cell 3
      have y3 := HX3.out.frozen 3
      have x4 : (V3).cell? ⟨X + 1 + 1, 4, none⟩ = some (.int .i64 0) := HX3.out.cell 4
      have y4 := HX3.out.frozen 4
      have x5 : (V3).cell? ⟨X + 1 + 1, 5, none⟩ = some (.int .i64 0) := HX3.out.cell 5
      have y5 := HX3.out.frozen 5
      have x6 : (V3).cell? ⟨X + 1 + 1, 6, none⟩ = some (.int .i64 0) := HX3.out.cell 6
      have y6 := HX3.out.frozen 6
      have x7 : (V3).cell? ⟨X + 1 + 1, 7, none⟩ = some (.int .i64 0) := HX3.out.cell 7
      have y7 := HX3.out.frozen 7
      have x8 : (V3).cell? ⟨X + 1 + 1, 8, none⟩ = some (.int .i64 0) := HX3.out.cell 8
      have y8 := HX3.out.frozen 8
      go_wp2_with fail
      rw [PGF.out]
      have BFF := (((((((((HX3.out).set_ 0 (.int .i64 pw)).set_ 1 (.int .i64 (R2 0))).set_ 2 (.int .i64 (R2 1))).set_ 3 (.int .i64 (R2 2))).set_ 4 (.int .i64 (R2 3))).set_ 5 (.int .i64 (R2 4))).set_ 6 (.int .i64 (R2 5))).set_ 7 (.int .i64 (R2 6))).set_ 8 (.int .i64 (R2 7))
      refine bodyPost_ret (v := .tuple #[.agg (stV pw (R2)), .bool true]) (results_cell2b Tryd.results15 rfl rfl (load39 (p := pw) (R := R2) (by simpa [stV] using BFF))) rfl ⟨rfl, ?_⟩
      have OFF := (((((((((((HO3.out.mono (T := [U.heap.size, X + 1 + 1]) (by simp))).setCell (p := ⟨X + 1 + 1, 0, none⟩) (.inl (by simp)) (.int .i64 pw)).setCell (p := ⟨X + 1 + 1, 1, none⟩) (.inl (by simp)) (.int .i64 (R2 0))).setCell (p := ⟨X + 1 + 1, 2, none⟩) (.inl (by simp)) (.int .i64 (R2 1))).setCell (p := ⟨X + 1 + 1, 3, none⟩) (.inl (by simp)) (.int .i64 (R2 2))).setCell (p := ⟨X + 1 + 1, 4, none⟩) (.inl (by simp)) (.int .i64 (R2 3))).setCell (p := ⟨X + 1 + 1, 5, none⟩) (.inl (by simp)) (.int .i64 (R2 4))).setCell (p := ⟨X + 1 + 1, 6, none⟩) (.inl (by simp)) (.int .i64 (R2 5))).setCell (p := ⟨X + 1 + 1, 7, none⟩) (.inl (by simp)) (.int .i64 (R2 6))).setCell (p := ⟨X + 1 + 1, 8, none⟩) (.inl (by simp)) (.int .i64 (R2 7))).mono (T := []) (fun x hx => .inr (by have := HX.out; have := HUX.out; simp at hx; omega))
      first | exact OFF | exact OFF.drew
set_option maxHeartbeats 8000000 in
theorem rstep4 (d : Nat) (hd : d < 8) (a : Nat) (ha : a < 8) (b : Nat) (hb : b < 8) (imm : Int) (p : Int) (R : Nat → Int) (w : World) : Calls Tryd.prog 15 #[.agg #[.int .i64 (4), .int .i64 ((d : Nat) : Int), .int .i64 ((a : Nat) : Int), .int .i64 ((b : Nat) : Int), .int .i64 imm], .agg (stV p R)] w fun e w' => e = .returned (stepV ⟨4, ((d : Nat) : Int), ((a : Nat) : Int), ((b : Nat) : Int), imm⟩ p R) ∧ Only [] w w' := by
  have PGF := hide (show stepV ⟨4, ((d : Nat) : Int), ((a : Nat) : Int), ((b : Nat) : Int), imm⟩ p R = .tuple #[.agg (stV (IntKind.i64.wrap (p + 1)) (upR R d (IntKind.i64.wrap (R a - R b)))), .bool true] from by
    have h1 : stepOk ⟨4, ((d : Nat) : Int), ((a : Nat) : Int), ((b : Nat) : Int), imm⟩ = true := by unfold stepOk inReg; simp [shp] <;> omega
    have h2 : stepPC ⟨4, ((d : Nat) : Int), ((a : Nat) : Int), ((b : Nat) : Int), imm⟩ p R = (IntKind.i64.wrap (p + 1)) := by unfold stepPC; simp
    have h3 : stepR ⟨4, ((d : Nat) : Int), ((a : Nat) : Int), ((b : Nat) : Int), imm⟩ R = (upR R d (IntKind.i64.wrap (R a - R b))) := by unfold stepR; simp
    unfold stepV
    rw [h1, h2, h3]
    rfl)
  have NM := hide (fun W => show Calls Tryd.prog 35 #[.int .i64 4] W fun e w' => e = .returned (.tuple #[.agg #[.bool true, .bool true, .bool true], .int .i64 (0), .bool true]) ∧ Only [] W w' from named_ok 4 (by decide) W)
  have HF := hide (show okF true (nB true true true) (lB ((d : Nat) : Int) ((a : Nat) : Int) ((b : Nat) : Int)) 3 = true by rw [okF_three]; unfold inReg; simp <;> omega)
  obtain ⟨X, hX⟩ : ∃ X, w.heap.size = X := ⟨_, rfl⟩
  obtain ⟨W, hW⟩ : ∃ W, ((w.alloc (.cells #[.int .i64 (4), .int .i64 ((d : Nat) : Int), .int .i64 ((a : Nat) : Int), .int .i64 ((b : Nat) : Int), .int .i64 imm] 24)).alloc (.cells (stV p R) 39)).alloc (.cells #[.int .i64 0, .int .i64 0, .int .i64 0, .int .i64 0, .int .i64 0, .int .i64 0, .int .i64 0, .int .i64 0, .int .i64 0] 39) = W := ⟨_, rfl⟩
  have oW : Only [] w W := by rw [← hW]; exact (((Only.refl [] w).alloc _).alloc _).alloc _
  have bI : Blk W X 24 #[.int .i64 (4), .int .i64 ((d : Nat) : Int), .int .i64 ((a : Nat) : Int), .int .i64 ((b : Nat) : Int), .int .i64 imm] := by rw [← hW, ← hX]; exact ((Blk.new w 24 _).alloc _).alloc _
  have bZ : Blk W (X + 1) 39 (stV p R) := by
    have := (Blk.new (w.alloc (.cells #[.int .i64 (4), .int .i64 ((d : Nat) : Int), .int .i64 ((a : Nat) : Int), .int .i64 ((b : Nat) : Int), .int .i64 imm] 24)) 39 (stV p R)).alloc (.cells #[.int .i64 0, .int .i64 0, .int .i64 0, .int .i64 0, .int .i64 0, .int .i64 0, .int .i64 0, .int .i64 0, .int .i64 0] 39)
    rw [World.size_alloc, hX, hW] at this
    exact this
  have bX : Blk W (X + 1 + 1) 39 #[.int .i64 0, .int .i64 0, .int .i64 0, .int .i64 0, .int .i64 0, .int .i64 0, .int .i64 0, .int .i64 0, .int .i64 0] := by
    have := Blk.new ((w.alloc (.cells #[.int .i64 (4), .int .i64 ((d : Nat) : Int), .int .i64 ((a : Nat) : Int), .int .i64 ((b : Nat) : Int), .int .i64 imm] 24)).alloc (.cells (stV p R) 39)) 39 #[.int .i64 0, .int .i64 0, .int .i64 0, .int .i64 0, .int .i64 0, .int .i64 0, .int .i64 0, .int .i64 0, .int .i64 0]
    rw [World.size_alloc, World.size_alloc, hX, hW] at this
    exact this
  have t0 : W.cell? ⟨X, 0, none⟩ = some (.int .i64 (4)) := bI.cell 0
  rw [← hW, ← hX] at t0
  unfold stV at t0 hW
  have HX := hide hX
  have HWX := hide (show X + 3 ≤ W.heap.size by have := bX.lt; omega)
  have OW := hide oW
  have BI := hide bI
  have BZ := hide bZ
  have BX := hide bX
  have HW := hide hW
  clear oW bI bZ bX hX hW
  have hst : stV p R = #[.int .i64 p, .int .i64 (R 0), .int .i64 (R 1), .int .i64 (R 2), .int .i64 (R 3), .int .i64 (R 4), .int .i64 (R 5), .int .i64 (R 6), .int .i64 (R 7)] := rfl
  rw [hst]
  clear hst
  go_enter Tryd.func15, Tryd.ntmps15
  go_wp2_with (go_at_call 35; rw [HX.out, HW.out]; (with_reducible refine (NM.out _).mono ?_); rintro e u1 ⟨rfl, o1⟩; have o2 := o1.alloc (.cells #[.bool true, .bool true, .bool true] 57); have b2 := BI.out.only o2 (by simp); have i1 := b2.cell 1; have i2 := b2.cell 2; have i3 := b2.cell 3; have O1 := hide o1; clear t0 o1 o2 b2)
  clear i1 i2 i3
  obtain ⟨Y, hY⟩ : ∃ Y, u1.heap.size = Y := ⟨_, rfl⟩
  have bN := (Blk.new u1 57 #[.bool true, .bool true, .bool true]).alloc (.cells #[.int .i64 ((d : Nat) : Int), .int .i64 ((a : Nat) : Int), .int .i64 ((b : Nat) : Int)] 59)
  have bL := Blk.new (u1.alloc (.cells #[.bool true, .bool true, .bool true] 57)) 59 #[.int .i64 ((d : Nat) : Int), .int .i64 ((a : Nat) : Int), .int .i64 ((b : Nat) : Int)]
  rw [World.size_alloc, hY] at bL
  rw [hY] at bN ⊢
  have o3 := (O1.out.alloc (.cells #[.bool true, .bool true, .bool true] 57)).alloc (.cells #[.int .i64 ((d : Nat) : Int), .int .i64 ((a : Nat) : Int), .int .i64 ((b : Nat) : Int)] 59)
  obtain ⟨U, hU⟩ : ∃ U, (u1.alloc (.cells #[.bool true, .bool true, .bool true] 57)).alloc (.cells #[.int .i64 ((d : Nat) : Int), .int .i64 ((a : Nat) : Int), .int .i64 ((b : Nat) : Int)] 59) = U := ⟨_, rfl⟩
  rw [hU] at bN bL o3 ⊢
  have B3I := BI.out.only o3 (by simp)
  have B3Z := hide (BZ.out.only o3 (by simp))
  have B3X := hide (BX.out.only o3 (by simp))
  have OU := hide (OW.out.trans0 o3)
  have CN := hide (fun q (hq : q < 3) => (bN.cell q).trans (nB_get true true true q hq))
  have CL := hide (fun q (hq : q < 3) => (bL.cell q).trans (lB_get ((d : Nat) : Int) ((a : Nat) : Int) ((b : Nat) : Int) q hq))
  have HUX := hide (show X + 3 ≤ U.heap.size by have := o3.size; have := HWX.out; omega)
  have HB3I := hide B3I
  clear hU hY bN bL o3 O1 BI BZ BX OW NM HW B3I
  go_loopw [8, 10] (fun vo vi wr => ∃ q : Nat, q ≤ 3 ∧ vi = .int .i64 q ∧ vo = .bool (okF true (nB true true true) (lB ((d : Nat) : Int) ((a : Nat) : Int) ((b : Nat) : Int)) q) ∧ U = wr) (fun _ vi _ => 3 - (intOf vi).toNat)
  case atStart => exact ⟨0, by omega, rfl, rfl, (by first | rfl | trivial)⟩
  case round =>
    obtain ⟨q, hq, rfl, rfl, hw⟩ := hrel
    obtain rfl := hw
    by_cases hq3 : q < 3
    · have cN := CN.out q hq3
      have cL := CL.out q hq3
      have hst : okF true (nB true true true) (lB ((d : Nat) : Int) ((a : Nat) : Int) ((b : Nat) : Int)) (q + 1) = (okF true (nB true true true) (lB ((d : Nat) : Int) ((a : Nat) : Int) ((b : Nat) : Int)) q && inReg ((nB true true true) q) ((lB ((d : Nat) : Int) ((a : Nat) : Int) ((b : Nat) : Int)) q)) := rfl
      obtain ⟨b0, hb0⟩ : ∃ b0, okF true (nB true true true) (lB ((d : Nat) : Int) ((a : Nat) : Int) ((b : Nat) : Int)) q = b0 := ⟨_, rfl⟩
      obtain ⟨nq, hnq⟩ : ∃ nq, (nB true true true) q = nq := ⟨_, rfl⟩
      obtain ⟨lq, hlq⟩ : ∃ lq, (lB ((d : Nat) : Int) ((a : Nat) : Int) ((b : Nat) : Int)) q = lq := ⟨_, rfl⟩
      rw [hb0, hnq, hlq] at hst
      rw [hnq] at cN
      rw [hlq] at cL
      rw [hb0]
      have HST := hide hst
      have j0 : (q : Int) < 3 := by omega
      have j1 : (0 : Int) ≤ (q : Int) := by omega
      clear hb0 hnq hlq hst
      cases b0
      · go_wp2_with fail
        go_roundw
        case rel => exact ⟨q + 1, by omega, by go_num, by rw [HST.out]; rfl, (by first | rfl | trivial)⟩
        case measure => simp [intOf]; omega
      cases nq
      · go_wp2_with fail
        go_roundw
        case rel => exact ⟨q + 1, by omega, by go_num, by rw [HST.out]; rfl, (by first | rfl | trivial)⟩
        case measure => simp [intOf]; omega
      by_cases h0 : 0 ≤ lq
      · by_cases h7 : lq ≤ 7
        · have e0 : decide (0 ≤ lq) = true := decide_eq_true h0
          have e7 : decide (lq ≤ 7) = true := decide_eq_true h7
          go_wp2_with fail
          go_roundw
          case rel => exact ⟨q + 1, by omega, by go_num, by rw [HST.out]; simp [inReg, h0, h7], (by first | rfl | trivial)⟩
          case measure => simp [intOf]; omega
        · have e0 : decide (0 ≤ lq) = true := decide_eq_true h0
          have e7 : decide (lq ≤ 7) = false := decide_eq_false h7
          go_wp2_with fail
          go_roundw
          case rel => exact ⟨q + 1, by omega, by go_num, by rw [HST.out]; simp [inReg, h0, h7], (by first | rfl | trivial)⟩
          case measure => simp [intOf]; omega
      · have e0 : decide (0 ≤ lq) = false := decide_eq_false h0
        go_wp2_with fail
        go_roundw
        case rel => exact ⟨q + 1, by omega, by go_num, by rw [HST.out]; simp [inReg, h0], (by first | rfl | trivial)⟩
        case measure => simp [intOf]; omega
    · obtain rfl : q = 3 := by omega
      rw [HF.out]
      clear CN CL HF
      have z0 : (U).cell? ⟨X + 1, 0, none⟩ = some (.int .i64 p) := B3Z.out.cell 0
      have z1 : (U).cell? ⟨X + 1, 1, none⟩ = some (.int .i64 (R 0)) := B3Z.out.cell 1
      have z2 : (U).cell? ⟨X + 1, 2, none⟩ = some (.int .i64 (R 1)) := B3Z.out.cell 2
      have z3 : (U).cell? ⟨X + 1, 3, none⟩ = some (.int .i64 (R 2)) := B3Z.out.cell 3
      have z4 : (U).cell? ⟨X + 1, 4, none⟩ = some (.int .i64 (R 3)) := B3Z.out.cell 4
      have z5 : (U).cell? ⟨X + 1, 5, none⟩ = some (.int .i64 (R 4)) := B3Z.out.cell 5
      have z6 : (U).cell? ⟨X + 1, 6, none⟩ = some (.int .i64 (R 5)) := B3Z.out.cell 6
      have z7 : (U).cell? ⟨X + 1, 7, none⟩ = some (.int .i64 (R 6)) := B3Z.out.cell 7
      have z8 : (U).cell? ⟨X + 1, 8, none⟩ = some (.int .i64 (R 7)) := B3Z.out.cell 8
      obtain ⟨pw, hpw⟩ : ∃ pw, IntKind.i64.wrap (p + 1) = pw := ⟨_, rfl⟩
      have PGF := PGF.out
      obtain ⟨vv, hvv⟩ : ∃ vv, IntKind.i64.wrap (R a - R b) = vv := ⟨_, rfl⟩
      rw [hvv] at PGF
      rw [hpw] at PGF
      obtain ⟨R2, hR2⟩ : ∃ R2, upR R d vv = R2 := ⟨_, rfl⟩
      rw [hR2] at PGF
      have PGF := hide PGF
      obtain ⟨V, hV⟩ : ∃ V, U.alloc (.cells #[.int .i64 pw, .int .i64 (R 0), .int .i64 (R 1), .int .i64 (R 2), .int .i64 (R 3), .int .i64 (R 4), .int .i64 (R 5), .int .i64 (R 6), .int .i64 (R 7)] 39) = V := ⟨_, rfl⟩
      have bO : Blk V U.heap.size 39 (stV pw R) := by rw [← hV]; exact Blk.new U 39 (stV pw R)
      have oV : Only [] U V := by rw [← hV]; exact (Only.refl [] U).alloc _
      have f0 : (U.alloc (.cells #[.int .i64 p, .int .i64 (R 0), .int .i64 (R 1), .int .i64 (R 2), .int .i64 (R 3), .int .i64 (R 4), .int .i64 (R 5), .int .i64 (R 6), .int .i64 (R 7)] 39)).cell? ⟨X + 1, 0, none⟩ = some (.int .i64 p) := (B3Z.out.alloc _).cell 0
      have BVI := HB3I.out.only oV (by simp)
      have BVZ := hide (B3Z.out.only oV (by simp))
      have BVX := hide (B3X.out.only oV (by simp))
      have OV := hide (OU.out.trans0 oV)
      have BO := hide bO
      clear bO oV B3Z B3X OU HB3I
      have i0 := BVI.cell 0
      have i1 := BVI.cell 1
      have i2 := BVI.cell 2
      have i3 := BVI.cell 3
      have i4 := BVI.cell 4
      clear BVI
      have j0d : (0 : Int) ≤ (d : Int) := by omega
      have j1d : (d : Int) < 8 := by omega
      have j0a : (0 : Int) ≤ (a : Int) := by omega
      have j1a : (a : Int) < 8 := by omega
      have j0b : (0 : Int) ≤ (b : Int) := by omega
      have j1b : (b : Int) < 8 := by omega
      have za := (BVZ.out.cell (1 + a)).trans (stV_get p R a ha)
      have zb := (BVZ.out.cell (1 + b)).trans (stV_get p R b hb)
      have oc := (BO.out.cell (1 + d)).trans (stV_get pw R d hd)
      have fo := BO.out.frozen (1 + d)
      obtain ⟨V2, hV2⟩ : ∃ V2, V.setCell ⟨U.heap.size, 1 + d, none⟩ (.int .i64 vv) = V2 := ⟨_, rfl⟩
      have bO2 : Blk V2 U.heap.size 39 (stV pw R2) := by rw [← hV2, ← hR2]; have := BO.out.set_ (1 + d) (.int .i64 vv); rw [stV_set pw R _ d hd] at this; exact this
      have bX2 : Blk V2 (X + 1 + 1) 39 #[.int .i64 0, .int .i64 0, .int .i64 0, .int .i64 0, .int .i64 0, .int .i64 0, .int .i64 0, .int .i64 0, .int .i64 0] := by rw [← hV2]; exact BVX.out.far (by have := HUX.out; simp; omega) _
      have O2 : Only [U.heap.size] w V2 := by rw [← hV2]; exact (OV.out.mono (T := [U.heap.size]) (by simp)).setCell (.inl (by simp)) _
      clear hR2
      have HO2 := hide O2
      have HX2 := hide bX2
      have BO2 := hide bO2
      clear O2 bX2 bO2
      go_wp2_with fail
      clear z0 z1 z2 z3 z4 z5 z6 z7 z8 f0 i0 i4 hV hpw
      have CI := hide (fun Vx (ov : Only [U.heap.size] V Vx) => show Vx.cell? ⟨X, 1, none⟩ = some (.int .i64 (d : Int)) ∧ Vx.cell? ⟨X, 2, none⟩ = some (.int .i64 ((a : Nat))) ∧ (Vx.cell? ⟨X, 3, none⟩ = some (.int .i64 (b : Int)) ∧ Vx.cell? ⟨X + 1, 1 + b, none⟩ = some (.int .i64 (R b))) ∧ Vx.cell? ⟨X + 1, 1 + a, none⟩ = some (.int .i64 (R a)) from ⟨(ov.keep i1 (by have := HUX.out; simp; omega)), (ov.keep i2 (by have := HUX.out; simp; omega)), ⟨(ov.keep i3 (by have := HUX.out; simp; omega)), (ov.keep zb (by have := HUX.out; simp; omega))⟩, (ov.keep za (by have := HUX.out; simp; omega))⟩)
      have V3e : V.drew.setCell ⟨U.heap.size, 1 + d, none⟩ (.int .i64 vv) = V2.drew := by rw [← hV2]; rfl
      have hV3 := V3e
      have OV3 := hide (show Only [U.heap.size] V V2.drew from by rw [← hV2]; exact ((Only.refl _ V).setCell (p := ⟨U.heap.size, 1 + d, none⟩) (.inl (by simp)) _).drew)
      clear V3e
      refine wp_region_held_drew (S := (fun U1 => Only [U.heap.size] V U1)) (by kernel_rfl) ((Only.refl _ V).drew) (fun hHeld => ?_)
      refine wpAnyH_take (i := 0) (oi := ⟨some 98, _, _, _, _, _⟩) (v := ?vr4_1) rfl (by kernel_rfl) (by kernel_rfl) (by kernel_rfl) (fun _ _ _ h => h) (Or.inl ⟨by rfl, ?hyr4_1⟩) (by assumption) ?restr4_1
      case hyr4_1 => (intro Vx hSw; (try dsimp only at hSw); go_simp; first | done | (with_reducible rfl))
      try simp only [Act.put, List.setIfInBounds_toArray, List.set_cons_zero, List.set_cons_succ]
      refine wpAnyH_take (i := 1) (oi := ⟨some 99, _, _, _, _, _⟩) (v := ?vr4_2) rfl (by kernel_rfl) (by kernel_rfl) (by kernel_rfl) (fun _ _ _ h => h) (Or.inl ⟨by rfl, ?hyr4_2⟩) (by assumption) ?restr4_2
      case hyr4_2 => (intro Vx hSw; (try dsimp only at hSw); obtain ⟨c1, c2, ⟨c3, c5⟩, c4⟩ := CI.out Vx hSw; go_simp; first | done | (with_reducible rfl))
      try simp only [Act.put, List.setIfInBounds_toArray, List.set_cons_zero, List.set_cons_succ]
      refine wpAnyH_take (i := 2) (oi := ⟨some 100, _, _, _, _, _⟩) (v := ?vr4_3) rfl (by kernel_rfl) (by kernel_rfl) (by kernel_rfl) (fun _ _ _ h => h) (Or.inl ⟨by rfl, ?hyr4_3⟩) (by assumption) ?restr4_3
      case hyr4_3 => (intro Vx hSw; (try dsimp only at hSw); go_simp; first | done | (with_reducible rfl))
      try simp only [Act.put, List.setIfInBounds_toArray, List.set_cons_zero, List.set_cons_succ]
      refine wpAnyH_take (i := 3) (oi := ⟨some 101, _, _, _, _, _⟩) (v := ?vr4_4) rfl (by kernel_rfl) (by kernel_rfl) (by kernel_rfl) (fun _ _ _ h => h) (Or.inl ⟨by rfl, ?hyr4_4⟩) (by assumption) ?restr4_4
      case hyr4_4 => (intro Vx hSw; (try dsimp only at hSw); obtain ⟨c1, c2, ⟨c3, c5⟩, c4⟩ := CI.out Vx hSw; go_simp; first | done | (with_reducible rfl))
      try simp only [Act.put, List.setIfInBounds_toArray, List.set_cons_zero, List.set_cons_succ]
      refine wpAnyH_take (i := 4) (oi := ⟨some 102, _, _, _, _, _⟩) (v := ?vr4_5) rfl (by kernel_rfl) (by kernel_rfl) (by kernel_rfl) (fun _ _ _ h => h) (Or.inl ⟨by rfl, ?hyr4_5⟩) (by assumption) ?restr4_5
      case hyr4_5 => (intro Vx hSw; (try dsimp only at hSw); go_simp; first | done | (with_reducible rfl))
      try simp only [Act.put, List.setIfInBounds_toArray, List.set_cons_zero, List.set_cons_succ]
      refine wpAnyH_take (i := 5) (oi := ⟨some 103, _, _, _, _, _⟩) (v := ?vr4_6) rfl (by kernel_rfl) (by kernel_rfl) (by kernel_rfl) (fun _ _ _ h => h) (Or.inl ⟨by rfl, ?hyr4_6⟩) (by assumption) ?restr4_6
      case hyr4_6 => (intro Vx hSw; (try dsimp only at hSw); go_simp; first | done | (with_reducible rfl))
      try simp only [Act.put, List.setIfInBounds_toArray, List.set_cons_zero, List.set_cons_succ]
      refine wpAnyH_take (i := 6) (oi := ⟨some 104, _, _, _, _, _⟩) (v := ?vr4_7) rfl (by kernel_rfl) (by kernel_rfl) (by kernel_rfl) (fun _ _ _ h => h) (Or.inl ⟨by rfl, ?hyr4_7⟩) (by assumption) ?restr4_7
      case hyr4_7 => (intro Vx hSw; (try dsimp only at hSw); obtain ⟨c1, c2, ⟨c3, c5⟩, c4⟩ := CI.out Vx hSw; go_simp; first | done | (with_reducible rfl))
      try simp only [Act.put, List.setIfInBounds_toArray, List.set_cons_zero, List.set_cons_succ]
      refine wpAnyH_take (i := 7) (oi := ⟨some 105, _, _, _, _, _⟩) (v := ?vr4_8) rfl (by kernel_rfl) (by kernel_rfl) (by kernel_rfl) (fun _ _ _ h => h) (Or.inl ⟨by rfl, ?hyr4_8⟩) (by assumption) ?restr4_8
      case hyr4_8 => (intro Vx hSw; (try dsimp only at hSw); go_simp; first | done | (with_reducible rfl))
      try simp only [Act.put, List.setIfInBounds_toArray, List.set_cons_zero, List.set_cons_succ]
      refine wpAnyH_take (i := 8) (oi := ⟨some 106, _, _, _, _, _⟩) (v := ?vr4_9) rfl (by kernel_rfl) (by kernel_rfl) (by kernel_rfl) (fun _ _ _ h => h) (Or.inl ⟨by rfl, ?hyr4_9⟩) (by assumption) ?restr4_9
      case hyr4_9 => (intro Vx hSw; (try dsimp only at hSw); obtain ⟨c1, c2, ⟨c3, c5⟩, c4⟩ := CI.out Vx hSw; go_simp; first | done | (with_reducible rfl))
      try simp only [Act.put, List.setIfInBounds_toArray, List.set_cons_zero, List.set_cons_succ]
      refine wpAnyH_take (i := 9) (oi := ⟨some 107, _, _, _, _, _⟩) (v := ?vr4_10) rfl (by kernel_rfl) (by kernel_rfl) (by kernel_rfl) (fun _ _ _ h => h) (Or.inl ⟨by rfl, ?hyr4_10⟩) (by assumption) ?restr4_10
      case hyr4_10 => (intro Vx hSw; (try dsimp only at hSw); go_simp; first | done | (with_reducible rfl))
      try simp only [Act.put, List.setIfInBounds_toArray, List.set_cons_zero, List.set_cons_succ]
      refine wpAnyH_take (i := 10) (oi := ⟨some 108, _, _, _, _, _⟩) (v := ?vr4_11) rfl (by kernel_rfl) (by kernel_rfl) (by kernel_rfl) (fun _ _ _ h => h) (Or.inl ⟨by rfl, ?hyr4_11⟩) (by assumption) ?restr4_11
      case hyr4_11 => (intro Vx hSw; (try dsimp only at hSw); go_simp; first | done | (with_reducible rfl))
      try simp only [Act.put, List.setIfInBounds_toArray, List.set_cons_zero, List.set_cons_succ]
      refine wpAnyH_take (i := 11) (oi := ⟨some 109, _, _, _, _, _⟩) (v := ?vr4_12) rfl (by kernel_rfl) (by kernel_rfl) (by kernel_rfl) (fun _ _ _ h => h) (Or.inl ⟨by rfl, ?hyr4_12⟩) (by assumption) ?restr4_12
      case hyr4_12 => (intro Vx hSw; (try dsimp only at hSw); obtain ⟨c1, c2, ⟨c3, c5⟩, c4⟩ := CI.out Vx hSw; go_simp; first | done | (with_reducible rfl))
      try simp only [Act.put, List.setIfInBounds_toArray, List.set_cons_zero, List.set_cons_succ]
      refine wpAnyH_take (i := 12) (oi := ⟨some 110, _, _, _, _, _⟩) (v := ?vr4_13) rfl (by kernel_rfl) (by kernel_rfl) (by kernel_rfl) (fun _ _ _ h => h) (Or.inl ⟨by rfl, ?hyr4_13⟩) (by assumption) ?restr4_13
      case hyr4_13 => (intro Vx hSw; (try dsimp only at hSw); go_simp; first | done | (with_reducible rfl))
      try simp only [Act.put, List.setIfInBounds_toArray, List.set_cons_zero, List.set_cons_succ]
      refine wpAnyH_take (i := 13) (oi := ⟨some 111, _, _, _, _, _⟩) (v := ?vr4_14) rfl (by kernel_rfl) (by kernel_rfl) (by kernel_rfl) (fun _ _ _ h => h) (Or.inl ⟨by rfl, ?hyr4_14⟩) (by assumption) ?restr4_14
      case hyr4_14 => (intro Vx hSw; (try dsimp only at hSw); go_simp; first | done | (with_reducible rfl))
      try simp only [Act.put, List.setIfInBounds_toArray, List.set_cons_zero, List.set_cons_succ]
      refine wpAnyH_take (i := 14) (oi := ⟨some 112, _, _, _, _, _⟩) (v := ?vr4_15) rfl (by kernel_rfl) (by kernel_rfl) (by kernel_rfl) (fun _ _ _ h => h) (Or.inl ⟨by rfl, ?hyr4_15⟩) (by assumption) ?restr4_15
      case hyr4_15 => (intro Vx hSw; (try dsimp only at hSw); go_simp; first | done | (with_reducible rfl))
      try simp only [Act.put, List.setIfInBounds_toArray, List.set_cons_zero, List.set_cons_succ]
      refine wpAnyH_ready (rs := [15]) (by kernel_rfl) (by simp) ?_
      refine AllReadyH.cons (o := ⟨none, _, _, _, _, _⟩) rfl (fun K hK => ?_) (AllReadyH.nil)
      rw [if_pos (by rfl)]
      have t5 : V.drew.cell? ⟨U.heap.size, 1 + d, none⟩ = some (.int .i64 (R d)) := oc; have t6 : V.drew.frozen? ⟨U.heap.size, 1 + d, none⟩ = false := fo
      go_simp
      try rw [hV3]
      try dsimp only
      refine hK.out _ _ (OV3.out) (fun hHeld => ?_)
      clear hK K
      try simp only [Act.put, List.setIfInBounds_toArray, List.set_cons_zero, List.set_cons_succ]
      refine wpAnyH_done (by kernel_rfl) ?_ _
      have BO3 := hide (show Blk V2.drew U.heap.size 39 (stV pw R2) from BO2.out.drew)
      have HX3 := hide (show Blk V2.drew (X + 1 + 1) 39 #[.int .i64 0, .int .i64 0, .int .i64 0, .int .i64 0, .int .i64 0, .int .i64 0, .int .i64 0, .int .i64 0, .int .i64 0] from HX2.out.drew)
      have HO3 := hide (show Only [U.heap.size] w V2.drew from HO2.out.drew)
      obtain ⟨V3, hV3'⟩ : ∃ V3, V2.drew = V3 := ⟨_, rfl⟩
      rw [hV3'] at BO3 HX3 HO3 ⊢
      clear hV3' hV3 OV3 hV2 BO2 HX2 HO2 CI hHeld oc fo
      have o0 : (V3).cell? ⟨U.heap.size, 0, none⟩ = some (.int .i64 pw) := BO3.out.cell 0
      have o1 : (V3).cell? ⟨U.heap.size, 1, none⟩ = some (.int .i64 (R2 0)) := BO3.out.cell 1
      have o2 : (V3).cell? ⟨U.heap.size, 2, none⟩ = some (.int .i64 (R2 1)) := BO3.out.cell 2
      have o3 : (V3).cell? ⟨U.heap.size, 3, none⟩ = some (.int .i64 (R2 2)) := BO3.out.cell 3
      have o4 : (V3).cell? ⟨U.heap.size, 4, none⟩ = some (.int .i64 (R2 3)) := BO3.out.cell 4
      have o5 : (V3).cell? ⟨U.heap.size, 5, none⟩ = some (.int .i64 (R2 4)) := BO3.out.cell 5
      have o6 : (V3).cell? ⟨U.heap.size, 6, none⟩ = some (.int .i64 (R2 5)) := BO3.out.cell 6
      have o7 : (V3).cell? ⟨U.heap.size, 7, none⟩ = some (.int .i64 (R2 6)) := BO3.out.cell 7
      have o8 : (V3).cell? ⟨U.heap.size, 8, none⟩ = some (.int .i64 (R2 7)) := BO3.out.cell 8
      have x0 : (V3).cell? ⟨X + 1 + 1, 0, none⟩ = some (.int .i64 0) := HX3.out.cell 0
      have y0 := HX3.out.frozen 0
      have x1 : (V3).cell? ⟨X + 1 + 1, 1, none⟩ = some (.int .i64 0) := HX3.out.cell 1
      have y1 := HX3.out.frozen 1
      have x2 : (V3).cell? ⟨X + 1 + 1, 2, none⟩ = some (.int .i64 0) := HX3.out.cell 2
      have y2 := HX3.out.frozen 2
      have x3 : (V3).cell? ⟨X + 1 + 1, 3, none⟩ = some (.int .i64 0) := HX3.out.cell 3
      have y3 := HX3.out.frozen 3
      have x4 : (V3).cell? ⟨X + 1 + 1, 4, none⟩ = some (.int .i64 0) := HX3.out.cell 4
      have y4 := HX3.out.frozen 4
      have x5 : (V3).cell? ⟨X + 1 + 1, 5, none⟩ = some (.int .i64 0) := HX3.out.cell 5
      have y5 := HX3.out.frozen 5
      have x6 : (V3).cell? ⟨X + 1 + 1, 6, none⟩ = some (.int .i64 0) := HX3.out.cell 6
      have y6 := HX3.out.frozen 6
      have x7 : (V3).cell? ⟨X + 1 + 1, 7, none⟩ = some (.int .i64 0) := HX3.out.cell 7
      have y7 := HX3.out.frozen 7
      have x8 : (V3).cell? ⟨X + 1 + 1, 8, none⟩ = some (.int .i64 0) := HX3.out.cell 8
      have y8 := HX3.out.frozen 8
      go_wp2_with fail
      rw [PGF.out]
      have BFF := (((((((((HX3.out).set_ 0 (.int .i64 pw)).set_ 1 (.int .i64 (R2 0))).set_ 2 (.int .i64 (R2 1))).set_ 3 (.int .i64 (R2 2))).set_ 4 (.int .i64 (R2 3))).set_ 5 (.int .i64 (R2 4))).set_ 6 (.int .i64 (R2 5))).set_ 7 (.int .i64 (R2 6))).set_ 8 (.int .i64 (R2 7))
      refine bodyPost_ret (v := .tuple #[.agg (stV pw (R2)), .bool true]) (results_cell2b Tryd.results15 rfl rfl (load39 (p := pw) (R := R2) (by simpa [stV] using BFF))) rfl ⟨rfl, ?_⟩
      have OFF := (((((((((((HO3.out.mono (T := [U.heap.size, X + 1 + 1]) (by simp))).setCell (p := ⟨X + 1 + 1, 0, none⟩) (.inl (by simp)) (.int .i64 pw)).setCell (p := ⟨X + 1 + 1, 1, none⟩) (.inl (by simp)) (.int .i64 (R2 0))).setCell (p := ⟨X + 1 + 1, 2, none⟩) (.inl (by simp)) (.int .i64 (R2 1))).setCell (p := ⟨X + 1 + 1, 3, none⟩) (.inl (by simp)) (.int .i64 (R2 2))).setCell (p := ⟨X + 1 + 1, 4, none⟩) (.inl (by simp)) (.int .i64 (R2 3))).setCell (p := ⟨X + 1 + 1, 5, none⟩) (.inl (by simp)) (.int .i64 (R2 4))).setCell (p := ⟨X + 1 + 1, 6, none⟩) (.inl (by simp)) (.int .i64 (R2 5))).setCell (p := ⟨X + 1 + 1, 7, none⟩) (.inl (by simp)) (.int .i64 (R2 6))).setCell (p := ⟨X + 1 + 1, 8, none⟩) (.inl (by simp)) (.int .i64 (R2 7))).mono (T := []) (fun x hx => .inr (by have := HX.out; have := HUX.out; simp at hx; omega))
      first | exact OFF | exact OFF.drew
set_option maxHeartbeats 8000000 in
theorem rstep5 (d : Int) (a : Int) (b : Int) (imm : Int) (p : Int) (R : Nat → Int) (w : World) : Calls Tryd.prog 15 #[.agg #[.int .i64 (5), .int .i64 d, .int .i64 a, .int .i64 b, .int .i64 imm], .agg (stV p R)] w fun e w' => e = .returned (stepV ⟨5, d, a, b, imm⟩ p R) ∧ Only [] w w' := by
  have PGF := hide (show stepV ⟨5, d, a, b, imm⟩ p R = .tuple #[.agg (stV imm R), .bool true] from by
    have h1 : stepOk ⟨5, d, a, b, imm⟩ = true := by unfold stepOk inReg; simp [shp]
    have h2 : stepPC ⟨5, d, a, b, imm⟩ p R = imm := by unfold stepPC; simp
    have h3 : stepR ⟨5, d, a, b, imm⟩ R = R := by unfold stepR; simp
    unfold stepV
    rw [h1, h2, h3]
    rfl)
  have NM := hide (fun W => show Calls Tryd.prog 35 #[.int .i64 5] W fun e w' => e = .returned (.tuple #[.agg #[.bool false, .bool false, .bool false], .int .i64 (2), .bool true]) ∧ Only [] W w' from named_ok 5 (by decide) W)
  have HF := hide (show okF true (nB false false false) (lB d a b) 3 = true by rw [okF_three]; unfold inReg; simp)
  obtain ⟨X, hX⟩ : ∃ X, w.heap.size = X := ⟨_, rfl⟩
  obtain ⟨W, hW⟩ : ∃ W, ((w.alloc (.cells #[.int .i64 (5), .int .i64 d, .int .i64 a, .int .i64 b, .int .i64 imm] 24)).alloc (.cells (stV p R) 39)).alloc (.cells #[.int .i64 0, .int .i64 0, .int .i64 0, .int .i64 0, .int .i64 0, .int .i64 0, .int .i64 0, .int .i64 0, .int .i64 0] 39) = W := ⟨_, rfl⟩
  have oW : Only [] w W := by rw [← hW]; exact (((Only.refl [] w).alloc _).alloc _).alloc _
  have bI : Blk W X 24 #[.int .i64 (5), .int .i64 d, .int .i64 a, .int .i64 b, .int .i64 imm] := by rw [← hW, ← hX]; exact ((Blk.new w 24 _).alloc _).alloc _
  have bZ : Blk W (X + 1) 39 (stV p R) := by
    have := (Blk.new (w.alloc (.cells #[.int .i64 (5), .int .i64 d, .int .i64 a, .int .i64 b, .int .i64 imm] 24)) 39 (stV p R)).alloc (.cells #[.int .i64 0, .int .i64 0, .int .i64 0, .int .i64 0, .int .i64 0, .int .i64 0, .int .i64 0, .int .i64 0, .int .i64 0] 39)
    rw [World.size_alloc, hX, hW] at this
    exact this
  have bX : Blk W (X + 1 + 1) 39 #[.int .i64 0, .int .i64 0, .int .i64 0, .int .i64 0, .int .i64 0, .int .i64 0, .int .i64 0, .int .i64 0, .int .i64 0] := by
    have := Blk.new ((w.alloc (.cells #[.int .i64 (5), .int .i64 d, .int .i64 a, .int .i64 b, .int .i64 imm] 24)).alloc (.cells (stV p R) 39)) 39 #[.int .i64 0, .int .i64 0, .int .i64 0, .int .i64 0, .int .i64 0, .int .i64 0, .int .i64 0, .int .i64 0, .int .i64 0]
    rw [World.size_alloc, World.size_alloc, hX, hW] at this
    exact this
  have t0 : W.cell? ⟨X, 0, none⟩ = some (.int .i64 (5)) := bI.cell 0
  rw [← hW, ← hX] at t0
  unfold stV at t0 hW
  have HX := hide hX
  have HWX := hide (show X + 3 ≤ W.heap.size by have := bX.lt; omega)
  have OW := hide oW
  have BI := hide bI
  have BZ := hide bZ
  have BX := hide bX
  have HW := hide hW
  clear oW bI bZ bX hX hW
  have hst : stV p R = #[.int .i64 p, .int .i64 (R 0), .int .i64 (R 1), .int .i64 (R 2), .int .i64 (R 3), .int .i64 (R 4), .int .i64 (R 5), .int .i64 (R 6), .int .i64 (R 7)] := rfl
  rw [hst]
  clear hst
  go_enter Tryd.func15, Tryd.ntmps15
  go_wp2_with (go_at_call 35; rw [HX.out, HW.out]; (with_reducible refine (NM.out _).mono ?_); rintro e u1 ⟨rfl, o1⟩; have o2 := o1.alloc (.cells #[.bool false, .bool false, .bool false] 57); have b2 := BI.out.only o2 (by simp); have i1 := b2.cell 1; have i2 := b2.cell 2; have i3 := b2.cell 3; have O1 := hide o1; clear t0 o1 o2 b2)
  clear i1 i2 i3
  obtain ⟨Y, hY⟩ : ∃ Y, u1.heap.size = Y := ⟨_, rfl⟩
  have bN := (Blk.new u1 57 #[.bool false, .bool false, .bool false]).alloc (.cells #[.int .i64 d, .int .i64 a, .int .i64 b] 59)
  have bL := Blk.new (u1.alloc (.cells #[.bool false, .bool false, .bool false] 57)) 59 #[.int .i64 d, .int .i64 a, .int .i64 b]
  rw [World.size_alloc, hY] at bL
  rw [hY] at bN ⊢
  have o3 := (O1.out.alloc (.cells #[.bool false, .bool false, .bool false] 57)).alloc (.cells #[.int .i64 d, .int .i64 a, .int .i64 b] 59)
  obtain ⟨U, hU⟩ : ∃ U, (u1.alloc (.cells #[.bool false, .bool false, .bool false] 57)).alloc (.cells #[.int .i64 d, .int .i64 a, .int .i64 b] 59) = U := ⟨_, rfl⟩
  rw [hU] at bN bL o3 ⊢
  have B3I := BI.out.only o3 (by simp)
  have B3Z := hide (BZ.out.only o3 (by simp))
  have B3X := hide (BX.out.only o3 (by simp))
  have OU := hide (OW.out.trans0 o3)
  have CN := hide (fun q (hq : q < 3) => (bN.cell q).trans (nB_get false false false q hq))
  have CL := hide (fun q (hq : q < 3) => (bL.cell q).trans (lB_get d a b q hq))
  have HUX := hide (show X + 3 ≤ U.heap.size by have := o3.size; have := HWX.out; omega)
  have HB3I := hide B3I
  clear hU hY bN bL o3 O1 BI BZ BX OW NM HW B3I
  go_loopw [8, 10] (fun vo vi wr => ∃ q : Nat, q ≤ 3 ∧ vi = .int .i64 q ∧ vo = .bool (okF true (nB false false false) (lB d a b) q) ∧ U = wr) (fun _ vi _ => 3 - (intOf vi).toNat)
  case atStart => exact ⟨0, by omega, rfl, rfl, (by first | rfl | trivial)⟩
  case round =>
    obtain ⟨q, hq, rfl, rfl, hw⟩ := hrel
    obtain rfl := hw
    by_cases hq3 : q < 3
    · have cN := CN.out q hq3
      have cL := CL.out q hq3
      have hst : okF true (nB false false false) (lB d a b) (q + 1) = (okF true (nB false false false) (lB d a b) q && inReg ((nB false false false) q) ((lB d a b) q)) := rfl
      obtain ⟨b0, hb0⟩ : ∃ b0, okF true (nB false false false) (lB d a b) q = b0 := ⟨_, rfl⟩
      obtain ⟨nq, hnq⟩ : ∃ nq, (nB false false false) q = nq := ⟨_, rfl⟩
      obtain ⟨lq, hlq⟩ : ∃ lq, (lB d a b) q = lq := ⟨_, rfl⟩
      rw [hb0, hnq, hlq] at hst
      rw [hnq] at cN
      rw [hlq] at cL
      rw [hb0]
      have HST := hide hst
      have j0 : (q : Int) < 3 := by omega
      have j1 : (0 : Int) ≤ (q : Int) := by omega
      clear hb0 hnq hlq hst
      cases b0
      · go_wp2_with fail
        go_roundw
        case rel => exact ⟨q + 1, by omega, by go_num, by rw [HST.out]; rfl, (by first | rfl | trivial)⟩
        case measure => simp [intOf]; omega
      cases nq
      · go_wp2_with fail
        go_roundw
        case rel => exact ⟨q + 1, by omega, by go_num, by rw [HST.out]; rfl, (by first | rfl | trivial)⟩
        case measure => simp [intOf]; omega
      by_cases h0 : 0 ≤ lq
      · by_cases h7 : lq ≤ 7
        · have e0 : decide (0 ≤ lq) = true := decide_eq_true h0
          have e7 : decide (lq ≤ 7) = true := decide_eq_true h7
          go_wp2_with fail
          go_roundw
          case rel => exact ⟨q + 1, by omega, by go_num, by rw [HST.out]; simp [inReg, h0, h7], (by first | rfl | trivial)⟩
          case measure => simp [intOf]; omega
        · have e0 : decide (0 ≤ lq) = true := decide_eq_true h0
          have e7 : decide (lq ≤ 7) = false := decide_eq_false h7
          go_wp2_with fail
          go_roundw
          case rel => exact ⟨q + 1, by omega, by go_num, by rw [HST.out]; simp [inReg, h0, h7], (by first | rfl | trivial)⟩
          case measure => simp [intOf]; omega
      · have e0 : decide (0 ≤ lq) = false := decide_eq_false h0
        go_wp2_with fail
        go_roundw
        case rel => exact ⟨q + 1, by omega, by go_num, by rw [HST.out]; simp [inReg, h0], (by first | rfl | trivial)⟩
        case measure => simp [intOf]; omega
    · obtain rfl : q = 3 := by omega
      rw [HF.out]
      clear CN CL HF
      have z0 : (U).cell? ⟨X + 1, 0, none⟩ = some (.int .i64 p) := B3Z.out.cell 0
      have z1 : (U).cell? ⟨X + 1, 1, none⟩ = some (.int .i64 (R 0)) := B3Z.out.cell 1
      have z2 : (U).cell? ⟨X + 1, 2, none⟩ = some (.int .i64 (R 1)) := B3Z.out.cell 2
      have z3 : (U).cell? ⟨X + 1, 3, none⟩ = some (.int .i64 (R 2)) := B3Z.out.cell 3
      have z4 : (U).cell? ⟨X + 1, 4, none⟩ = some (.int .i64 (R 3)) := B3Z.out.cell 4
      have z5 : (U).cell? ⟨X + 1, 5, none⟩ = some (.int .i64 (R 4)) := B3Z.out.cell 5
      have z6 : (U).cell? ⟨X + 1, 6, none⟩ = some (.int .i64 (R 5)) := B3Z.out.cell 6
      have z7 : (U).cell? ⟨X + 1, 7, none⟩ = some (.int .i64 (R 6)) := B3Z.out.cell 7
      have z8 : (U).cell? ⟨X + 1, 8, none⟩ = some (.int .i64 (R 7)) := B3Z.out.cell 8
      obtain ⟨pw, hpw⟩ : ∃ pw, IntKind.i64.wrap (p + 1) = pw := ⟨_, rfl⟩
      have PGF := PGF.out
      have PGF := hide PGF
      obtain ⟨V, hV⟩ : ∃ V, U.alloc (.cells #[.int .i64 pw, .int .i64 (R 0), .int .i64 (R 1), .int .i64 (R 2), .int .i64 (R 3), .int .i64 (R 4), .int .i64 (R 5), .int .i64 (R 6), .int .i64 (R 7)] 39) = V := ⟨_, rfl⟩
      have bO : Blk V U.heap.size 39 (stV pw R) := by rw [← hV]; exact Blk.new U 39 (stV pw R)
      have oV : Only [] U V := by rw [← hV]; exact (Only.refl [] U).alloc _
      have f0 : (U.alloc (.cells #[.int .i64 p, .int .i64 (R 0), .int .i64 (R 1), .int .i64 (R 2), .int .i64 (R 3), .int .i64 (R 4), .int .i64 (R 5), .int .i64 (R 6), .int .i64 (R 7)] 39)).cell? ⟨X + 1, 0, none⟩ = some (.int .i64 p) := (B3Z.out.alloc _).cell 0
      have BVI := HB3I.out.only oV (by simp)
      have BVZ := hide (B3Z.out.only oV (by simp))
      have BVX := hide (B3X.out.only oV (by simp))
      have OV := hide (OU.out.trans0 oV)
      have BO := hide bO
      clear bO oV B3Z B3X OU HB3I
      have i0 := BVI.cell 0
      have i1 := BVI.cell 1
      have i2 := BVI.cell 2
      have i3 := BVI.cell 3
      have i4 := BVI.cell 4
      clear BVI
      have oc : V.cell? ⟨U.heap.size, 0, none⟩ = some (.int .i64 pw) := BO.out.cell 0
      have fo := BO.out.frozen 0
      obtain ⟨V2, hV2⟩ : ∃ V2, V.setCell ⟨U.heap.size, 0, none⟩ (.int .i64 imm) = V2 := ⟨_, rfl⟩
      have bO2 : Blk V2 U.heap.size 39 (stV imm R) := by rw [← hV2]; have := BO.out.set_ 0 (.int .i64 imm); rw [stV_pc] at this; exact this
      have bX2 : Blk V2 (X + 1 + 1) 39 #[.int .i64 0, .int .i64 0, .int .i64 0, .int .i64 0, .int .i64 0, .int .i64 0, .int .i64 0, .int .i64 0, .int .i64 0] := by rw [← hV2]; exact BVX.out.far (by have := HUX.out; simp; omega) _
      have O2 : Only [U.heap.size] w V2 := by rw [← hV2]; exact (OV.out.mono (T := [U.heap.size]) (by simp)).setCell (.inl (by simp)) _
      have o0 : (V2).cell? ⟨U.heap.size, 0, none⟩ = some (.int .i64 imm) := bO2.cell 0
      have o1 : (V2).cell? ⟨U.heap.size, 1, none⟩ = some (.int .i64 (R 0)) := bO2.cell 1
      have o2 : (V2).cell? ⟨U.heap.size, 2, none⟩ = some (.int .i64 (R 1)) := bO2.cell 2
      have o3 : (V2).cell? ⟨U.heap.size, 3, none⟩ = some (.int .i64 (R 2)) := bO2.cell 3
      have o4 : (V2).cell? ⟨U.heap.size, 4, none⟩ = some (.int .i64 (R 3)) := bO2.cell 4
      have o5 : (V2).cell? ⟨U.heap.size, 5, none⟩ = some (.int .i64 (R 4)) := bO2.cell 5
      have o6 : (V2).cell? ⟨U.heap.size, 6, none⟩ = some (.int .i64 (R 5)) := bO2.cell 6
      have o7 : (V2).cell? ⟨U.heap.size, 7, none⟩ = some (.int .i64 (R 6)) := bO2.cell 7
      have o8 : (V2).cell? ⟨U.heap.size, 8, none⟩ = some (.int .i64 (R 7)) := bO2.cell 8
      have x0 : (V2).cell? ⟨X + 1 + 1, 0, none⟩ = some (.int .i64 0) := bX2.cell 0
      have y0 := bX2.frozen 0
      have x1 : (V2).cell? ⟨X + 1 + 1, 1, none⟩ = some (.int .i64 0) := bX2.cell 1
      have y1 := bX2.frozen 1
      have x2 : (V2).cell? ⟨X + 1 + 1, 2, none⟩ = some (.int .i64 0) := bX2.cell 2
      have y2 := bX2.frozen 2
      have x3 : (V2).cell? ⟨X + 1 + 1, 3, none⟩ = some (.int .i64 0) := bX2.cell 3
      have y3 := bX2.frozen 3
      have x4 : (V2).cell? ⟨X + 1 + 1, 4, none⟩ = some (.int .i64 0) := bX2.cell 4
      have y4 := bX2.frozen 4
      have x5 : (V2).cell? ⟨X + 1 + 1, 5, none⟩ = some (.int .i64 0) := bX2.cell 5
      have y5 := bX2.frozen 5
      have x6 : (V2).cell? ⟨X + 1 + 1, 6, none⟩ = some (.int .i64 0) := bX2.cell 6
      have y6 := bX2.frozen 6
      have x7 : (V2).cell? ⟨X + 1 + 1, 7, none⟩ = some (.int .i64 0) := bX2.cell 7
      have y7 := bX2.frozen 7
      have x8 : (V2).cell? ⟨X + 1 + 1, 8, none⟩ = some (.int .i64 0) := bX2.cell 8
      have y8 := bX2.frozen 8
      have HO2 := hide O2
      have HX2 := hide bX2
      clear O2 bX2 bO2
      go_wp2_with fail
      rw [PGF.out]
      have BFF := (((((((((HX2.out).set_ 0 (.int .i64 imm)).set_ 1 (.int .i64 (R 0))).set_ 2 (.int .i64 (R 1))).set_ 3 (.int .i64 (R 2))).set_ 4 (.int .i64 (R 3))).set_ 5 (.int .i64 (R 4))).set_ 6 (.int .i64 (R 5))).set_ 7 (.int .i64 (R 6))).set_ 8 (.int .i64 (R 7))
      refine bodyPost_ret (v := .tuple #[.agg (stV imm (R)), .bool true]) (results_cell2b Tryd.results15 rfl rfl (load39 (p := imm) (R := R) (by simpa [stV] using BFF))) rfl ⟨rfl, ?_⟩
      have OFF := (((((((((((HO2.out.mono (T := [U.heap.size, X + 1 + 1]) (by simp))).setCell (p := ⟨X + 1 + 1, 0, none⟩) (.inl (by simp)) (.int .i64 imm)).setCell (p := ⟨X + 1 + 1, 1, none⟩) (.inl (by simp)) (.int .i64 (R 0))).setCell (p := ⟨X + 1 + 1, 2, none⟩) (.inl (by simp)) (.int .i64 (R 1))).setCell (p := ⟨X + 1 + 1, 3, none⟩) (.inl (by simp)) (.int .i64 (R 2))).setCell (p := ⟨X + 1 + 1, 4, none⟩) (.inl (by simp)) (.int .i64 (R 3))).setCell (p := ⟨X + 1 + 1, 5, none⟩) (.inl (by simp)) (.int .i64 (R 4))).setCell (p := ⟨X + 1 + 1, 6, none⟩) (.inl (by simp)) (.int .i64 (R 5))).setCell (p := ⟨X + 1 + 1, 7, none⟩) (.inl (by simp)) (.int .i64 (R 6))).setCell (p := ⟨X + 1 + 1, 8, none⟩) (.inl (by simp)) (.int .i64 (R 7))).mono (T := []) (fun x hx => .inr (by have := HX.out; have := HUX.out; simp at hx; omega))
      first | exact OFF | exact OFF.drew
set_option maxHeartbeats 8000000 in
theorem rstep6 (d : Int) (a : Nat) (ha : a < 8) (b : Int) (imm : Int) (p : Int) (R : Nat → Int) (w : World) : Calls Tryd.prog 15 #[.agg #[.int .i64 (6), .int .i64 d, .int .i64 ((a : Nat) : Int), .int .i64 b, .int .i64 imm], .agg (stV p R)] w fun e w' => e = .returned (stepV ⟨6, d, ((a : Nat) : Int), b, imm⟩ p R) ∧ Only [] w w' := by
  have PGF := hide (show stepV ⟨6, d, ((a : Nat) : Int), b, imm⟩ p R = .tuple #[.agg (stV (if R a = 0 then imm else IntKind.i64.wrap (p + 1)) R), .bool true] from by
    have h1 : stepOk ⟨6, d, ((a : Nat) : Int), b, imm⟩ = true := by unfold stepOk inReg; simp [shp] <;> omega
    have h2 : stepPC ⟨6, d, ((a : Nat) : Int), b, imm⟩ p R = (if R a = 0 then imm else IntKind.i64.wrap (p + 1)) := by unfold stepPC; simp
    have h3 : stepR ⟨6, d, ((a : Nat) : Int), b, imm⟩ R = R := by unfold stepR; simp
    unfold stepV
    rw [h1, h2, h3]
    rfl)
  have NM := hide (fun W => show Calls Tryd.prog 35 #[.int .i64 6] W fun e w' => e = .returned (.tuple #[.agg #[.bool false, .bool true, .bool false], .int .i64 (2), .bool true]) ∧ Only [] W w' from named_ok 6 (by decide) W)
  have HF := hide (show okF true (nB false true false) (lB d ((a : Nat) : Int) b) 3 = true by rw [okF_three]; unfold inReg; simp <;> omega)
  obtain ⟨X, hX⟩ : ∃ X, w.heap.size = X := ⟨_, rfl⟩
  obtain ⟨W, hW⟩ : ∃ W, ((w.alloc (.cells #[.int .i64 (6), .int .i64 d, .int .i64 ((a : Nat) : Int), .int .i64 b, .int .i64 imm] 24)).alloc (.cells (stV p R) 39)).alloc (.cells #[.int .i64 0, .int .i64 0, .int .i64 0, .int .i64 0, .int .i64 0, .int .i64 0, .int .i64 0, .int .i64 0, .int .i64 0] 39) = W := ⟨_, rfl⟩
  have oW : Only [] w W := by rw [← hW]; exact (((Only.refl [] w).alloc _).alloc _).alloc _
  have bI : Blk W X 24 #[.int .i64 (6), .int .i64 d, .int .i64 ((a : Nat) : Int), .int .i64 b, .int .i64 imm] := by rw [← hW, ← hX]; exact ((Blk.new w 24 _).alloc _).alloc _
  have bZ : Blk W (X + 1) 39 (stV p R) := by
    have := (Blk.new (w.alloc (.cells #[.int .i64 (6), .int .i64 d, .int .i64 ((a : Nat) : Int), .int .i64 b, .int .i64 imm] 24)) 39 (stV p R)).alloc (.cells #[.int .i64 0, .int .i64 0, .int .i64 0, .int .i64 0, .int .i64 0, .int .i64 0, .int .i64 0, .int .i64 0, .int .i64 0] 39)
    rw [World.size_alloc, hX, hW] at this
    exact this
  have bX : Blk W (X + 1 + 1) 39 #[.int .i64 0, .int .i64 0, .int .i64 0, .int .i64 0, .int .i64 0, .int .i64 0, .int .i64 0, .int .i64 0, .int .i64 0] := by
    have := Blk.new ((w.alloc (.cells #[.int .i64 (6), .int .i64 d, .int .i64 ((a : Nat) : Int), .int .i64 b, .int .i64 imm] 24)).alloc (.cells (stV p R) 39)) 39 #[.int .i64 0, .int .i64 0, .int .i64 0, .int .i64 0, .int .i64 0, .int .i64 0, .int .i64 0, .int .i64 0, .int .i64 0]
    rw [World.size_alloc, World.size_alloc, hX, hW] at this
    exact this
  have t0 : W.cell? ⟨X, 0, none⟩ = some (.int .i64 (6)) := bI.cell 0
  rw [← hW, ← hX] at t0
  unfold stV at t0 hW
  have HX := hide hX
  have HWX := hide (show X + 3 ≤ W.heap.size by have := bX.lt; omega)
  have OW := hide oW
  have BI := hide bI
  have BZ := hide bZ
  have BX := hide bX
  have HW := hide hW
  clear oW bI bZ bX hX hW
  have hst : stV p R = #[.int .i64 p, .int .i64 (R 0), .int .i64 (R 1), .int .i64 (R 2), .int .i64 (R 3), .int .i64 (R 4), .int .i64 (R 5), .int .i64 (R 6), .int .i64 (R 7)] := rfl
  rw [hst]
  clear hst
  go_enter Tryd.func15, Tryd.ntmps15
  go_wp2_with (go_at_call 35; rw [HX.out, HW.out]; (with_reducible refine (NM.out _).mono ?_); rintro e u1 ⟨rfl, o1⟩; have o2 := o1.alloc (.cells #[.bool false, .bool true, .bool false] 57); have b2 := BI.out.only o2 (by simp); have i1 := b2.cell 1; have i2 := b2.cell 2; have i3 := b2.cell 3; have O1 := hide o1; clear t0 o1 o2 b2)
  clear i1 i2 i3
  obtain ⟨Y, hY⟩ : ∃ Y, u1.heap.size = Y := ⟨_, rfl⟩
  have bN := (Blk.new u1 57 #[.bool false, .bool true, .bool false]).alloc (.cells #[.int .i64 d, .int .i64 ((a : Nat) : Int), .int .i64 b] 59)
  have bL := Blk.new (u1.alloc (.cells #[.bool false, .bool true, .bool false] 57)) 59 #[.int .i64 d, .int .i64 ((a : Nat) : Int), .int .i64 b]
  rw [World.size_alloc, hY] at bL
  rw [hY] at bN ⊢
  have o3 := (O1.out.alloc (.cells #[.bool false, .bool true, .bool false] 57)).alloc (.cells #[.int .i64 d, .int .i64 ((a : Nat) : Int), .int .i64 b] 59)
  obtain ⟨U, hU⟩ : ∃ U, (u1.alloc (.cells #[.bool false, .bool true, .bool false] 57)).alloc (.cells #[.int .i64 d, .int .i64 ((a : Nat) : Int), .int .i64 b] 59) = U := ⟨_, rfl⟩
  rw [hU] at bN bL o3 ⊢
  have B3I := BI.out.only o3 (by simp)
  have B3Z := hide (BZ.out.only o3 (by simp))
  have B3X := hide (BX.out.only o3 (by simp))
  have OU := hide (OW.out.trans0 o3)
  have CN := hide (fun q (hq : q < 3) => (bN.cell q).trans (nB_get false true false q hq))
  have CL := hide (fun q (hq : q < 3) => (bL.cell q).trans (lB_get d ((a : Nat) : Int) b q hq))
  have HUX := hide (show X + 3 ≤ U.heap.size by have := o3.size; have := HWX.out; omega)
  have HB3I := hide B3I
  clear hU hY bN bL o3 O1 BI BZ BX OW NM HW B3I
  go_loopw [8, 10] (fun vo vi wr => ∃ q : Nat, q ≤ 3 ∧ vi = .int .i64 q ∧ vo = .bool (okF true (nB false true false) (lB d ((a : Nat) : Int) b) q) ∧ U = wr) (fun _ vi _ => 3 - (intOf vi).toNat)
  case atStart => exact ⟨0, by omega, rfl, rfl, (by first | rfl | trivial)⟩
  case round =>
    obtain ⟨q, hq, rfl, rfl, hw⟩ := hrel
    obtain rfl := hw
    by_cases hq3 : q < 3
    · have cN := CN.out q hq3
      have cL := CL.out q hq3
      have hst : okF true (nB false true false) (lB d ((a : Nat) : Int) b) (q + 1) = (okF true (nB false true false) (lB d ((a : Nat) : Int) b) q && inReg ((nB false true false) q) ((lB d ((a : Nat) : Int) b) q)) := rfl
      obtain ⟨b0, hb0⟩ : ∃ b0, okF true (nB false true false) (lB d ((a : Nat) : Int) b) q = b0 := ⟨_, rfl⟩
      obtain ⟨nq, hnq⟩ : ∃ nq, (nB false true false) q = nq := ⟨_, rfl⟩
      obtain ⟨lq, hlq⟩ : ∃ lq, (lB d ((a : Nat) : Int) b) q = lq := ⟨_, rfl⟩
      rw [hb0, hnq, hlq] at hst
      rw [hnq] at cN
      rw [hlq] at cL
      rw [hb0]
      have HST := hide hst
      have j0 : (q : Int) < 3 := by omega
      have j1 : (0 : Int) ≤ (q : Int) := by omega
      clear hb0 hnq hlq hst
      cases b0
      · go_wp2_with fail
        go_roundw
        case rel => exact ⟨q + 1, by omega, by go_num, by rw [HST.out]; rfl, (by first | rfl | trivial)⟩
        case measure => simp [intOf]; omega
      cases nq
      · go_wp2_with fail
        go_roundw
        case rel => exact ⟨q + 1, by omega, by go_num, by rw [HST.out]; rfl, (by first | rfl | trivial)⟩
        case measure => simp [intOf]; omega
      by_cases h0 : 0 ≤ lq
      · by_cases h7 : lq ≤ 7
        · have e0 : decide (0 ≤ lq) = true := decide_eq_true h0
          have e7 : decide (lq ≤ 7) = true := decide_eq_true h7
          go_wp2_with fail
          go_roundw
          case rel => exact ⟨q + 1, by omega, by go_num, by rw [HST.out]; simp [inReg, h0, h7], (by first | rfl | trivial)⟩
          case measure => simp [intOf]; omega
        · have e0 : decide (0 ≤ lq) = true := decide_eq_true h0
          have e7 : decide (lq ≤ 7) = false := decide_eq_false h7
          go_wp2_with fail
          go_roundw
          case rel => exact ⟨q + 1, by omega, by go_num, by rw [HST.out]; simp [inReg, h0, h7], (by first | rfl | trivial)⟩
          case measure => simp [intOf]; omega
      · have e0 : decide (0 ≤ lq) = false := decide_eq_false h0
        go_wp2_with fail
        go_roundw
        case rel => exact ⟨q + 1, by omega, by go_num, by rw [HST.out]; simp [inReg, h0], (by first | rfl | trivial)⟩
        case measure => simp [intOf]; omega
    · obtain rfl : q = 3 := by omega
      rw [HF.out]
      clear CN CL HF
      have z0 : (U).cell? ⟨X + 1, 0, none⟩ = some (.int .i64 p) := B3Z.out.cell 0
      have z1 : (U).cell? ⟨X + 1, 1, none⟩ = some (.int .i64 (R 0)) := B3Z.out.cell 1
      have z2 : (U).cell? ⟨X + 1, 2, none⟩ = some (.int .i64 (R 1)) := B3Z.out.cell 2
      have z3 : (U).cell? ⟨X + 1, 3, none⟩ = some (.int .i64 (R 2)) := B3Z.out.cell 3
      have z4 : (U).cell? ⟨X + 1, 4, none⟩ = some (.int .i64 (R 3)) := B3Z.out.cell 4
      have z5 : (U).cell? ⟨X + 1, 5, none⟩ = some (.int .i64 (R 4)) := B3Z.out.cell 5
      have z6 : (U).cell? ⟨X + 1, 6, none⟩ = some (.int .i64 (R 5)) := B3Z.out.cell 6
      have z7 : (U).cell? ⟨X + 1, 7, none⟩ = some (.int .i64 (R 6)) := B3Z.out.cell 7
      have z8 : (U).cell? ⟨X + 1, 8, none⟩ = some (.int .i64 (R 7)) := B3Z.out.cell 8
      obtain ⟨pw, hpw⟩ : ∃ pw, IntKind.i64.wrap (p + 1) = pw := ⟨_, rfl⟩
      have PGF := PGF.out
      rw [hpw] at PGF
      have PGF := hide PGF
      obtain ⟨V, hV⟩ : ∃ V, U.alloc (.cells #[.int .i64 pw, .int .i64 (R 0), .int .i64 (R 1), .int .i64 (R 2), .int .i64 (R 3), .int .i64 (R 4), .int .i64 (R 5), .int .i64 (R 6), .int .i64 (R 7)] 39) = V := ⟨_, rfl⟩
      have bO : Blk V U.heap.size 39 (stV pw R) := by rw [← hV]; exact Blk.new U 39 (stV pw R)
      have oV : Only [] U V := by rw [← hV]; exact (Only.refl [] U).alloc _
      have f0 : (U.alloc (.cells #[.int .i64 p, .int .i64 (R 0), .int .i64 (R 1), .int .i64 (R 2), .int .i64 (R 3), .int .i64 (R 4), .int .i64 (R 5), .int .i64 (R 6), .int .i64 (R 7)] 39)).cell? ⟨X + 1, 0, none⟩ = some (.int .i64 p) := (B3Z.out.alloc _).cell 0
      have BVI := HB3I.out.only oV (by simp)
      have BVZ := hide (B3Z.out.only oV (by simp))
      have BVX := hide (B3X.out.only oV (by simp))
      have OV := hide (OU.out.trans0 oV)
      have BO := hide bO
      clear bO oV B3Z B3X OU HB3I
      have i0 := BVI.cell 0
      have i1 := BVI.cell 1
      have i2 := BVI.cell 2
      have i3 := BVI.cell 3
      have i4 := BVI.cell 4
      clear BVI
      have j0a : (0 : Int) ≤ (a : Int) := by omega
      have j1a : (a : Int) < 8 := by omega
      have za := (BVZ.out.cell (1 + a)).trans (stV_get p R a ha)
      have oc : V.cell? ⟨U.heap.size, 0, none⟩ = some (.int .i64 pw) := BO.out.cell 0
      have fo := BO.out.frozen 0
      obtain ⟨V2, hV2⟩ : ∃ V2, V.setCell ⟨U.heap.size, 0, none⟩ (.int .i64 imm) = V2 := ⟨_, rfl⟩
      have bO2 : Blk V2 U.heap.size 39 (stV imm R) := by rw [← hV2]; have := BO.out.set_ 0 (.int .i64 imm); rw [stV_pc] at this; exact this
      have bX2 : Blk V2 (X + 1 + 1) 39 #[.int .i64 0, .int .i64 0, .int .i64 0, .int .i64 0, .int .i64 0, .int .i64 0, .int .i64 0, .int .i64 0, .int .i64 0] := by rw [← hV2]; exact BVX.out.far (by have := HUX.out; simp; omega) _
      have O2 : Only [U.heap.size] w V2 := by rw [← hV2]; exact (OV.out.mono (T := [U.heap.size]) (by simp)).setCell (.inl (by simp)) _
      by_cases h0 : R a = 0
      · have e0 : (R a == 0) = true := by simp [h0]
        have PGF := PGF.out
        rw [if_pos h0] at PGF
        have PGF := hide PGF
        have o0 : (V2).cell? ⟨U.heap.size, 0, none⟩ = some (.int .i64 imm) := bO2.cell 0
        have o1 : (V2).cell? ⟨U.heap.size, 1, none⟩ = some (.int .i64 (R 0)) := bO2.cell 1
        have o2 : (V2).cell? ⟨U.heap.size, 2, none⟩ = some (.int .i64 (R 1)) := bO2.cell 2
        have o3 : (V2).cell? ⟨U.heap.size, 3, none⟩ = some (.int .i64 (R 2)) := bO2.cell 3
        have o4 : (V2).cell? ⟨U.heap.size, 4, none⟩ = some (.int .i64 (R 3)) := bO2.cell 4
        have o5 : (V2).cell? ⟨U.heap.size, 5, none⟩ = some (.int .i64 (R 4)) := bO2.cell 5
        have o6 : (V2).cell? ⟨U.heap.size, 6, none⟩ = some (.int .i64 (R 5)) := bO2.cell 6
        have o7 : (V2).cell? ⟨U.heap.size, 7, none⟩ = some (.int .i64 (R 6)) := bO2.cell 7
        have o8 : (V2).cell? ⟨U.heap.size, 8, none⟩ = some (.int .i64 (R 7)) := bO2.cell 8
        have x0 : (V2).cell? ⟨X + 1 + 1, 0, none⟩ = some (.int .i64 0) := bX2.cell 0
        have y0 := bX2.frozen 0
        have x1 : (V2).cell? ⟨X + 1 + 1, 1, none⟩ = some (.int .i64 0) := bX2.cell 1
        have y1 := bX2.frozen 1
        have x2 : (V2).cell? ⟨X + 1 + 1, 2, none⟩ = some (.int .i64 0) := bX2.cell 2
        have y2 := bX2.frozen 2
        have x3 : (V2).cell? ⟨X + 1 + 1, 3, none⟩ = some (.int .i64 0) := bX2.cell 3
        have y3 := bX2.frozen 3
        have x4 : (V2).cell? ⟨X + 1 + 1, 4, none⟩ = some (.int .i64 0) := bX2.cell 4
        have y4 := bX2.frozen 4
        have x5 : (V2).cell? ⟨X + 1 + 1, 5, none⟩ = some (.int .i64 0) := bX2.cell 5
        have y5 := bX2.frozen 5
        have x6 : (V2).cell? ⟨X + 1 + 1, 6, none⟩ = some (.int .i64 0) := bX2.cell 6
        have y6 := bX2.frozen 6
        have x7 : (V2).cell? ⟨X + 1 + 1, 7, none⟩ = some (.int .i64 0) := bX2.cell 7
        have y7 := bX2.frozen 7
        have x8 : (V2).cell? ⟨X + 1 + 1, 8, none⟩ = some (.int .i64 0) := bX2.cell 8
        have y8 := bX2.frozen 8
        have HO2 := hide O2
        have HX2 := hide bX2
        clear O2 bX2 bO2 h0
        go_wp2_with fail
        rw [PGF.out]
        have BFF := (((((((((HX2.out).set_ 0 (.int .i64 imm)).set_ 1 (.int .i64 (R 0))).set_ 2 (.int .i64 (R 1))).set_ 3 (.int .i64 (R 2))).set_ 4 (.int .i64 (R 3))).set_ 5 (.int .i64 (R 4))).set_ 6 (.int .i64 (R 5))).set_ 7 (.int .i64 (R 6))).set_ 8 (.int .i64 (R 7))
        refine bodyPost_ret (v := .tuple #[.agg (stV imm (R)), .bool true]) (results_cell2b Tryd.results15 rfl rfl (load39 (p := imm) (R := R) (by simpa [stV] using BFF))) rfl ⟨rfl, ?_⟩
        have OFF := (((((((((((HO2.out.mono (T := [U.heap.size, X + 1 + 1]) (by simp))).setCell (p := ⟨X + 1 + 1, 0, none⟩) (.inl (by simp)) (.int .i64 imm)).setCell (p := ⟨X + 1 + 1, 1, none⟩) (.inl (by simp)) (.int .i64 (R 0))).setCell (p := ⟨X + 1 + 1, 2, none⟩) (.inl (by simp)) (.int .i64 (R 1))).setCell (p := ⟨X + 1 + 1, 3, none⟩) (.inl (by simp)) (.int .i64 (R 2))).setCell (p := ⟨X + 1 + 1, 4, none⟩) (.inl (by simp)) (.int .i64 (R 3))).setCell (p := ⟨X + 1 + 1, 5, none⟩) (.inl (by simp)) (.int .i64 (R 4))).setCell (p := ⟨X + 1 + 1, 6, none⟩) (.inl (by simp)) (.int .i64 (R 5))).setCell (p := ⟨X + 1 + 1, 7, none⟩) (.inl (by simp)) (.int .i64 (R 6))).setCell (p := ⟨X + 1 + 1, 8, none⟩) (.inl (by simp)) (.int .i64 (R 7))).mono (T := []) (fun x hx => .inr (by have := HX.out; have := HUX.out; simp at hx; omega))
        first | exact OFF | exact OFF.drew
      · have e0 : (R a == 0) = false := by simp [h0]
        have PGF := PGF.out
        rw [if_neg h0] at PGF
        have PGF := hide PGF
        clear hV2 bO2 bX2 O2 oc
        have o0 : (V).cell? ⟨U.heap.size, 0, none⟩ = some (.int .i64 pw) := BO.out.cell 0
        have o1 : (V).cell? ⟨U.heap.size, 1, none⟩ = some (.int .i64 (R 0)) := BO.out.cell 1
        have o2 : (V).cell? ⟨U.heap.size, 2, none⟩ = some (.int .i64 (R 1)) := BO.out.cell 2
        have o3 : (V).cell? ⟨U.heap.size, 3, none⟩ = some (.int .i64 (R 2)) := BO.out.cell 3
        have o4 : (V).cell? ⟨U.heap.size, 4, none⟩ = some (.int .i64 (R 3)) := BO.out.cell 4
        have o5 : (V).cell? ⟨U.heap.size, 5, none⟩ = some (.int .i64 (R 4)) := BO.out.cell 5
        have o6 : (V).cell? ⟨U.heap.size, 6, none⟩ = some (.int .i64 (R 5)) := BO.out.cell 6
        have o7 : (V).cell? ⟨U.heap.size, 7, none⟩ = some (.int .i64 (R 6)) := BO.out.cell 7
        have o8 : (V).cell? ⟨U.heap.size, 8, none⟩ = some (.int .i64 (R 7)) := BO.out.cell 8
        have x0 : (V).cell? ⟨X + 1 + 1, 0, none⟩ = some (.int .i64 0) := BVX.out.cell 0
        have y0 := BVX.out.frozen 0
        have x1 : (V).cell? ⟨X + 1 + 1, 1, none⟩ = some (.int .i64 0) := BVX.out.cell 1
        have y1 := BVX.out.frozen 1
        have x2 : (V).cell? ⟨X + 1 + 1, 2, none⟩ = some (.int .i64 0) := BVX.out.cell 2
        have y2 := BVX.out.frozen 2
        have x3 : (V).cell? ⟨X + 1 + 1, 3, none⟩ = some (.int .i64 0) := BVX.out.cell 3
        have y3 := BVX.out.frozen 3
        have x4 : (V).cell? ⟨X + 1 + 1, 4, none⟩ = some (.int .i64 0) := BVX.out.cell 4
        have y4 := BVX.out.frozen 4
        have x5 : (V).cell? ⟨X + 1 + 1, 5, none⟩ = some (.int .i64 0) := BVX.out.cell 5
        have y5 := BVX.out.frozen 5
        have x6 : (V).cell? ⟨X + 1 + 1, 6, none⟩ = some (.int .i64 0) := BVX.out.cell 6
        have y6 := BVX.out.frozen 6
        have x7 : (V).cell? ⟨X + 1 + 1, 7, none⟩ = some (.int .i64 0) := BVX.out.cell 7
        have y7 := BVX.out.frozen 7
        have x8 : (V).cell? ⟨X + 1 + 1, 8, none⟩ = some (.int .i64 0) := BVX.out.cell 8
        have y8 := BVX.out.frozen 8
        clear h0
        go_wp2_with fail
        rw [PGF.out]
        have BFF := (((((((((BVX.out).set_ 0 (.int .i64 pw)).set_ 1 (.int .i64 (R 0))).set_ 2 (.int .i64 (R 1))).set_ 3 (.int .i64 (R 2))).set_ 4 (.int .i64 (R 3))).set_ 5 (.int .i64 (R 4))).set_ 6 (.int .i64 (R 5))).set_ 7 (.int .i64 (R 6))).set_ 8 (.int .i64 (R 7))
        refine bodyPost_ret (v := .tuple #[.agg (stV pw (R)), .bool true]) (results_cell2b Tryd.results15 rfl rfl (load39 (p := pw) (R := R) (by simpa [stV] using BFF))) rfl ⟨rfl, ?_⟩
        have OFF := (((((((((((OV.out.mono (T := [U.heap.size, X + 1 + 1]) (by simp))).setCell (p := ⟨X + 1 + 1, 0, none⟩) (.inl (by simp)) (.int .i64 pw)).setCell (p := ⟨X + 1 + 1, 1, none⟩) (.inl (by simp)) (.int .i64 (R 0))).setCell (p := ⟨X + 1 + 1, 2, none⟩) (.inl (by simp)) (.int .i64 (R 1))).setCell (p := ⟨X + 1 + 1, 3, none⟩) (.inl (by simp)) (.int .i64 (R 2))).setCell (p := ⟨X + 1 + 1, 4, none⟩) (.inl (by simp)) (.int .i64 (R 3))).setCell (p := ⟨X + 1 + 1, 5, none⟩) (.inl (by simp)) (.int .i64 (R 4))).setCell (p := ⟨X + 1 + 1, 6, none⟩) (.inl (by simp)) (.int .i64 (R 5))).setCell (p := ⟨X + 1 + 1, 7, none⟩) (.inl (by simp)) (.int .i64 (R 6))).setCell (p := ⟨X + 1 + 1, 8, none⟩) (.inl (by simp)) (.int .i64 (R 7))).mono (T := []) (fun x hx => .inr (by have := HX.out; have := HUX.out; simp at hx; omega))
        first | exact OFF | exact OFF.drew
set_option maxHeartbeats 8000000 in
theorem rstep7 (d : Int) (a : Int) (b : Int) (imm : Int) (p : Int) (R : Nat → Int) (w : World) : Calls Tryd.prog 15 #[.agg #[.int .i64 (7), .int .i64 d, .int .i64 a, .int .i64 b, .int .i64 imm], .agg (stV p R)] w fun e w' => e = .returned (stepV ⟨7, d, a, b, imm⟩ p R) ∧ Only [] w w' := by
  have PGF := hide (show stepV ⟨7, d, a, b, imm⟩ p R = .tuple #[.agg (stV p R), .bool false] from by
    have h1 : stepOk ⟨7, d, a, b, imm⟩ = false := by unfold stepOk; simp
    unfold stepV
    rw [h1]
    rfl)
  have NM := hide (fun W => show Calls Tryd.prog 35 #[.int .i64 7] W fun e w' => e = .returned (.tuple #[.agg #[.bool false, .bool false, .bool false], .int .i64 (3), .bool true]) ∧ Only [] W w' from named_ok 7 (by decide) W)
  have HF := hide (show okF true (nB false false false) (lB d a b) 3 = true by rw [okF_three]; unfold inReg; simp)
  obtain ⟨X, hX⟩ : ∃ X, w.heap.size = X := ⟨_, rfl⟩
  obtain ⟨W, hW⟩ : ∃ W, ((w.alloc (.cells #[.int .i64 (7), .int .i64 d, .int .i64 a, .int .i64 b, .int .i64 imm] 24)).alloc (.cells (stV p R) 39)).alloc (.cells #[.int .i64 0, .int .i64 0, .int .i64 0, .int .i64 0, .int .i64 0, .int .i64 0, .int .i64 0, .int .i64 0, .int .i64 0] 39) = W := ⟨_, rfl⟩
  have oW : Only [] w W := by rw [← hW]; exact (((Only.refl [] w).alloc _).alloc _).alloc _
  have bI : Blk W X 24 #[.int .i64 (7), .int .i64 d, .int .i64 a, .int .i64 b, .int .i64 imm] := by rw [← hW, ← hX]; exact ((Blk.new w 24 _).alloc _).alloc _
  have bZ : Blk W (X + 1) 39 (stV p R) := by
    have := (Blk.new (w.alloc (.cells #[.int .i64 (7), .int .i64 d, .int .i64 a, .int .i64 b, .int .i64 imm] 24)) 39 (stV p R)).alloc (.cells #[.int .i64 0, .int .i64 0, .int .i64 0, .int .i64 0, .int .i64 0, .int .i64 0, .int .i64 0, .int .i64 0, .int .i64 0] 39)
    rw [World.size_alloc, hX, hW] at this
    exact this
  have bX : Blk W (X + 1 + 1) 39 #[.int .i64 0, .int .i64 0, .int .i64 0, .int .i64 0, .int .i64 0, .int .i64 0, .int .i64 0, .int .i64 0, .int .i64 0] := by
    have := Blk.new ((w.alloc (.cells #[.int .i64 (7), .int .i64 d, .int .i64 a, .int .i64 b, .int .i64 imm] 24)).alloc (.cells (stV p R) 39)) 39 #[.int .i64 0, .int .i64 0, .int .i64 0, .int .i64 0, .int .i64 0, .int .i64 0, .int .i64 0, .int .i64 0, .int .i64 0]
    rw [World.size_alloc, World.size_alloc, hX, hW] at this
    exact this
  have t0 : W.cell? ⟨X, 0, none⟩ = some (.int .i64 (7)) := bI.cell 0
  rw [← hW, ← hX] at t0
  unfold stV at t0 hW
  have HX := hide hX
  have HWX := hide (show X + 3 ≤ W.heap.size by have := bX.lt; omega)
  have OW := hide oW
  have BI := hide bI
  have BZ := hide bZ
  have BX := hide bX
  have HW := hide hW
  clear oW bI bZ bX hX hW
  have hst : stV p R = #[.int .i64 p, .int .i64 (R 0), .int .i64 (R 1), .int .i64 (R 2), .int .i64 (R 3), .int .i64 (R 4), .int .i64 (R 5), .int .i64 (R 6), .int .i64 (R 7)] := rfl
  rw [hst]
  clear hst
  go_enter Tryd.func15, Tryd.ntmps15
  go_wp2_with (go_at_call 35; rw [HX.out, HW.out]; (with_reducible refine (NM.out _).mono ?_); rintro e u1 ⟨rfl, o1⟩; have o2 := o1.alloc (.cells #[.bool false, .bool false, .bool false] 57); have b2 := BI.out.only o2 (by simp); have i1 := b2.cell 1; have i2 := b2.cell 2; have i3 := b2.cell 3; have O1 := hide o1; clear t0 o1 o2 b2)
  clear i1 i2 i3
  obtain ⟨Y, hY⟩ : ∃ Y, u1.heap.size = Y := ⟨_, rfl⟩
  have bN := (Blk.new u1 57 #[.bool false, .bool false, .bool false]).alloc (.cells #[.int .i64 d, .int .i64 a, .int .i64 b] 59)
  have bL := Blk.new (u1.alloc (.cells #[.bool false, .bool false, .bool false] 57)) 59 #[.int .i64 d, .int .i64 a, .int .i64 b]
  rw [World.size_alloc, hY] at bL
  rw [hY] at bN ⊢
  have o3 := (O1.out.alloc (.cells #[.bool false, .bool false, .bool false] 57)).alloc (.cells #[.int .i64 d, .int .i64 a, .int .i64 b] 59)
  obtain ⟨U, hU⟩ : ∃ U, (u1.alloc (.cells #[.bool false, .bool false, .bool false] 57)).alloc (.cells #[.int .i64 d, .int .i64 a, .int .i64 b] 59) = U := ⟨_, rfl⟩
  rw [hU] at bN bL o3 ⊢
  have B3I := BI.out.only o3 (by simp)
  have B3Z := hide (BZ.out.only o3 (by simp))
  have B3X := hide (BX.out.only o3 (by simp))
  have OU := hide (OW.out.trans0 o3)
  have CN := hide (fun q (hq : q < 3) => (bN.cell q).trans (nB_get false false false q hq))
  have CL := hide (fun q (hq : q < 3) => (bL.cell q).trans (lB_get d a b q hq))
  have HUX := hide (show X + 3 ≤ U.heap.size by have := o3.size; have := HWX.out; omega)
  have HB3I := hide B3I
  clear hU hY bN bL o3 O1 BI BZ BX OW NM HW B3I
  go_loopw [8, 10] (fun vo vi wr => ∃ q : Nat, q ≤ 3 ∧ vi = .int .i64 q ∧ vo = .bool (okF true (nB false false false) (lB d a b) q) ∧ U = wr) (fun _ vi _ => 3 - (intOf vi).toNat)
  case atStart => exact ⟨0, by omega, rfl, rfl, (by first | rfl | trivial)⟩
  case round =>
    obtain ⟨q, hq, rfl, rfl, hw⟩ := hrel
    obtain rfl := hw
    by_cases hq3 : q < 3
    · have cN := CN.out q hq3
      have cL := CL.out q hq3
      have hst : okF true (nB false false false) (lB d a b) (q + 1) = (okF true (nB false false false) (lB d a b) q && inReg ((nB false false false) q) ((lB d a b) q)) := rfl
      obtain ⟨b0, hb0⟩ : ∃ b0, okF true (nB false false false) (lB d a b) q = b0 := ⟨_, rfl⟩
      obtain ⟨nq, hnq⟩ : ∃ nq, (nB false false false) q = nq := ⟨_, rfl⟩
      obtain ⟨lq, hlq⟩ : ∃ lq, (lB d a b) q = lq := ⟨_, rfl⟩
      rw [hb0, hnq, hlq] at hst
      rw [hnq] at cN
      rw [hlq] at cL
      rw [hb0]
      have HST := hide hst
      have j0 : (q : Int) < 3 := by omega
      have j1 : (0 : Int) ≤ (q : Int) := by omega
      clear hb0 hnq hlq hst
      cases b0
      · go_wp2_with fail
        go_roundw
        case rel => exact ⟨q + 1, by omega, by go_num, by rw [HST.out]; rfl, (by first | rfl | trivial)⟩
        case measure => simp [intOf]; omega
      cases nq
      · go_wp2_with fail
        go_roundw
        case rel => exact ⟨q + 1, by omega, by go_num, by rw [HST.out]; rfl, (by first | rfl | trivial)⟩
        case measure => simp [intOf]; omega
      by_cases h0 : 0 ≤ lq
      · by_cases h7 : lq ≤ 7
        · have e0 : decide (0 ≤ lq) = true := decide_eq_true h0
          have e7 : decide (lq ≤ 7) = true := decide_eq_true h7
          go_wp2_with fail
          go_roundw
          case rel => exact ⟨q + 1, by omega, by go_num, by rw [HST.out]; simp [inReg, h0, h7], (by first | rfl | trivial)⟩
          case measure => simp [intOf]; omega
        · have e0 : decide (0 ≤ lq) = true := decide_eq_true h0
          have e7 : decide (lq ≤ 7) = false := decide_eq_false h7
          go_wp2_with fail
          go_roundw
          case rel => exact ⟨q + 1, by omega, by go_num, by rw [HST.out]; simp [inReg, h0, h7], (by first | rfl | trivial)⟩
          case measure => simp [intOf]; omega
      · have e0 : decide (0 ≤ lq) = false := decide_eq_false h0
        go_wp2_with fail
        go_roundw
        case rel => exact ⟨q + 1, by omega, by go_num, by rw [HST.out]; simp [inReg, h0], (by first | rfl | trivial)⟩
        case measure => simp [intOf]; omega
    · obtain rfl : q = 3 := by omega
      rw [HF.out]
      clear CN CL HF
      have z0 : (U).cell? ⟨X + 1, 0, none⟩ = some (.int .i64 p) := B3Z.out.cell 0
      have z1 : (U).cell? ⟨X + 1, 1, none⟩ = some (.int .i64 (R 0)) := B3Z.out.cell 1
      have z2 : (U).cell? ⟨X + 1, 2, none⟩ = some (.int .i64 (R 1)) := B3Z.out.cell 2
      have z3 : (U).cell? ⟨X + 1, 3, none⟩ = some (.int .i64 (R 2)) := B3Z.out.cell 3
      have z4 : (U).cell? ⟨X + 1, 4, none⟩ = some (.int .i64 (R 3)) := B3Z.out.cell 4
      have z5 : (U).cell? ⟨X + 1, 5, none⟩ = some (.int .i64 (R 4)) := B3Z.out.cell 5
      have z6 : (U).cell? ⟨X + 1, 6, none⟩ = some (.int .i64 (R 5)) := B3Z.out.cell 6
      have z7 : (U).cell? ⟨X + 1, 7, none⟩ = some (.int .i64 (R 6)) := B3Z.out.cell 7
      have z8 : (U).cell? ⟨X + 1, 8, none⟩ = some (.int .i64 (R 7)) := B3Z.out.cell 8
      obtain ⟨pw, hpw⟩ : ∃ pw, IntKind.i64.wrap (p + 1) = pw := ⟨_, rfl⟩
      have PGF := PGF.out
      have PGF := hide PGF
      obtain ⟨V, hV⟩ : ∃ V, U.alloc (.cells #[.int .i64 pw, .int .i64 (R 0), .int .i64 (R 1), .int .i64 (R 2), .int .i64 (R 3), .int .i64 (R 4), .int .i64 (R 5), .int .i64 (R 6), .int .i64 (R 7)] 39) = V := ⟨_, rfl⟩
      have bO : Blk V U.heap.size 39 (stV pw R) := by rw [← hV]; exact Blk.new U 39 (stV pw R)
      have oV : Only [] U V := by rw [← hV]; exact (Only.refl [] U).alloc _
      have f0 : (U.alloc (.cells #[.int .i64 p, .int .i64 (R 0), .int .i64 (R 1), .int .i64 (R 2), .int .i64 (R 3), .int .i64 (R 4), .int .i64 (R 5), .int .i64 (R 6), .int .i64 (R 7)] 39)).cell? ⟨X + 1, 0, none⟩ = some (.int .i64 p) := (B3Z.out.alloc _).cell 0
      have BVI := HB3I.out.only oV (by simp)
      have BVZ := hide (B3Z.out.only oV (by simp))
      have BVX := hide (B3X.out.only oV (by simp))
      have OV := hide (OU.out.trans0 oV)
      have BO := hide bO
      clear bO oV B3Z B3X OU HB3I
      have i0 := BVI.cell 0
      have i1 := BVI.cell 1
      have i2 := BVI.cell 2
      have i3 := BVI.cell 3
      have i4 := BVI.cell 4
      clear BVI
      have z0 : (V).cell? ⟨X + 1, 0, none⟩ = some (.int .i64 p) := BVZ.out.cell 0
      have z1 : (V).cell? ⟨X + 1, 1, none⟩ = some (.int .i64 (R 0)) := BVZ.out.cell 1
      have z2 : (V).cell? ⟨X + 1, 2, none⟩ = some (.int .i64 (R 1)) := BVZ.out.cell 2
      have z3 : (V).cell? ⟨X + 1, 3, none⟩ = some (.int .i64 (R 2)) := BVZ.out.cell 3
      have z4 : (V).cell? ⟨X + 1, 4, none⟩ = some (.int .i64 (R 3)) := BVZ.out.cell 4
      have z5 : (V).cell? ⟨X + 1, 5, none⟩ = some (.int .i64 (R 4)) := BVZ.out.cell 5
      have z6 : (V).cell? ⟨X + 1, 6, none⟩ = some (.int .i64 (R 5)) := BVZ.out.cell 6
      have z7 : (V).cell? ⟨X + 1, 7, none⟩ = some (.int .i64 (R 6)) := BVZ.out.cell 7
      have z8 : (V).cell? ⟨X + 1, 8, none⟩ = some (.int .i64 (R 7)) := BVZ.out.cell 8
      have x0 : (V).cell? ⟨X + 1 + 1, 0, none⟩ = some (.int .i64 0) := BVX.out.cell 0
      have y0 := BVX.out.frozen 0
      have x1 : (V).cell? ⟨X + 1 + 1, 1, none⟩ = some (.int .i64 0) := BVX.out.cell 1
      have y1 := BVX.out.frozen 1
      have x2 : (V).cell? ⟨X + 1 + 1, 2, none⟩ = some (.int .i64 0) := BVX.out.cell 2
      have y2 := BVX.out.frozen 2
      have x3 : (V).cell? ⟨X + 1 + 1, 3, none⟩ = some (.int .i64 0) := BVX.out.cell 3
      have y3 := BVX.out.frozen 3
      have x4 : (V).cell? ⟨X + 1 + 1, 4, none⟩ = some (.int .i64 0) := BVX.out.cell 4
      have y4 := BVX.out.frozen 4
      have x5 : (V).cell? ⟨X + 1 + 1, 5, none⟩ = some (.int .i64 0) := BVX.out.cell 5
      have y5 := BVX.out.frozen 5
      have x6 : (V).cell? ⟨X + 1 + 1, 6, none⟩ = some (.int .i64 0) := BVX.out.cell 6
      have y6 := BVX.out.frozen 6
      have x7 : (V).cell? ⟨X + 1 + 1, 7, none⟩ = some (.int .i64 0) := BVX.out.cell 7
      have y7 := BVX.out.frozen 7
      have x8 : (V).cell? ⟨X + 1 + 1, 8, none⟩ = some (.int .i64 0) := BVX.out.cell 8
      have y8 := BVX.out.frozen 8
      go_wp2_with fail
      rw [PGF.out]
      have BFF := (((((((((BVX.out).set_ 0 (.int .i64 p)).set_ 1 (.int .i64 (R 0))).set_ 2 (.int .i64 (R 1))).set_ 3 (.int .i64 (R 2))).set_ 4 (.int .i64 (R 3))).set_ 5 (.int .i64 (R 4))).set_ 6 (.int .i64 (R 5))).set_ 7 (.int .i64 (R 6))).set_ 8 (.int .i64 (R 7))
      refine bodyPost_ret (v := .tuple #[.agg (stV p (R)), .bool false]) (results_cell2b Tryd.results15 rfl rfl (load39 (p := p) (R := R) (by simpa [stV] using BFF))) rfl ⟨rfl, ?_⟩
      have OFF := (((((((((((OV.out.mono (T := [U.heap.size, X + 1 + 1]) (by simp))).setCell (p := ⟨X + 1 + 1, 0, none⟩) (.inl (by simp)) (.int .i64 p)).setCell (p := ⟨X + 1 + 1, 1, none⟩) (.inl (by simp)) (.int .i64 (R 0))).setCell (p := ⟨X + 1 + 1, 2, none⟩) (.inl (by simp)) (.int .i64 (R 1))).setCell (p := ⟨X + 1 + 1, 3, none⟩) (.inl (by simp)) (.int .i64 (R 2))).setCell (p := ⟨X + 1 + 1, 4, none⟩) (.inl (by simp)) (.int .i64 (R 3))).setCell (p := ⟨X + 1 + 1, 5, none⟩) (.inl (by simp)) (.int .i64 (R 4))).setCell (p := ⟨X + 1 + 1, 6, none⟩) (.inl (by simp)) (.int .i64 (R 5))).setCell (p := ⟨X + 1 + 1, 7, none⟩) (.inl (by simp)) (.int .i64 (R 6))).setCell (p := ⟨X + 1 + 1, 8, none⟩) (.inl (by simp)) (.int .i64 (R 7))).mono (T := []) (fun x hx => .inr (by have := HX.out; have := HUX.out; simp at hx; omega))
      first | exact OFF | exact OFF.drew
set_option maxHeartbeats 8000000 in
theorem rstep8 (d : Int) (a : Nat) (ha : a < 8) (b : Int) (imm : Int) (p : Int) (R : Nat → Int) (w : World) : Calls Tryd.prog 15 #[.agg #[.int .i64 (8), .int .i64 d, .int .i64 ((a : Nat) : Int), .int .i64 b, .int .i64 imm], .agg (stV p R)] w fun e w' => e = .returned (stepV ⟨8, d, ((a : Nat) : Int), b, imm⟩ p R) ∧ Only [] w w' := by
  have PGF := hide (show stepV ⟨8, d, ((a : Nat) : Int), b, imm⟩ p R = .tuple #[.agg (stV p R), .bool false] from by
    have h1 : stepOk ⟨8, d, ((a : Nat) : Int), b, imm⟩ = false := by unfold stepOk; simp
    unfold stepV
    rw [h1]
    rfl)
  have NM := hide (fun W => show Calls Tryd.prog 35 #[.int .i64 8] W fun e w' => e = .returned (.tuple #[.agg #[.bool false, .bool true, .bool false], .int .i64 (0), .bool true]) ∧ Only [] W w' from named_ok 8 (by decide) W)
  have HF := hide (show okF true (nB false true false) (lB d ((a : Nat) : Int) b) 3 = true by rw [okF_three]; unfold inReg; simp <;> omega)
  obtain ⟨X, hX⟩ : ∃ X, w.heap.size = X := ⟨_, rfl⟩
  obtain ⟨W, hW⟩ : ∃ W, ((w.alloc (.cells #[.int .i64 (8), .int .i64 d, .int .i64 ((a : Nat) : Int), .int .i64 b, .int .i64 imm] 24)).alloc (.cells (stV p R) 39)).alloc (.cells #[.int .i64 0, .int .i64 0, .int .i64 0, .int .i64 0, .int .i64 0, .int .i64 0, .int .i64 0, .int .i64 0, .int .i64 0] 39) = W := ⟨_, rfl⟩
  have oW : Only [] w W := by rw [← hW]; exact (((Only.refl [] w).alloc _).alloc _).alloc _
  have bI : Blk W X 24 #[.int .i64 (8), .int .i64 d, .int .i64 ((a : Nat) : Int), .int .i64 b, .int .i64 imm] := by rw [← hW, ← hX]; exact ((Blk.new w 24 _).alloc _).alloc _
  have bZ : Blk W (X + 1) 39 (stV p R) := by
    have := (Blk.new (w.alloc (.cells #[.int .i64 (8), .int .i64 d, .int .i64 ((a : Nat) : Int), .int .i64 b, .int .i64 imm] 24)) 39 (stV p R)).alloc (.cells #[.int .i64 0, .int .i64 0, .int .i64 0, .int .i64 0, .int .i64 0, .int .i64 0, .int .i64 0, .int .i64 0, .int .i64 0] 39)
    rw [World.size_alloc, hX, hW] at this
    exact this
  have bX : Blk W (X + 1 + 1) 39 #[.int .i64 0, .int .i64 0, .int .i64 0, .int .i64 0, .int .i64 0, .int .i64 0, .int .i64 0, .int .i64 0, .int .i64 0] := by
    have := Blk.new ((w.alloc (.cells #[.int .i64 (8), .int .i64 d, .int .i64 ((a : Nat) : Int), .int .i64 b, .int .i64 imm] 24)).alloc (.cells (stV p R) 39)) 39 #[.int .i64 0, .int .i64 0, .int .i64 0, .int .i64 0, .int .i64 0, .int .i64 0, .int .i64 0, .int .i64 0, .int .i64 0]
    rw [World.size_alloc, World.size_alloc, hX, hW] at this
    exact this
  have t0 : W.cell? ⟨X, 0, none⟩ = some (.int .i64 (8)) := bI.cell 0
  rw [← hW, ← hX] at t0
  unfold stV at t0 hW
  have HX := hide hX
  have HWX := hide (show X + 3 ≤ W.heap.size by have := bX.lt; omega)
  have OW := hide oW
  have BI := hide bI
  have BZ := hide bZ
  have BX := hide bX
  have HW := hide hW
  clear oW bI bZ bX hX hW
  have hst : stV p R = #[.int .i64 p, .int .i64 (R 0), .int .i64 (R 1), .int .i64 (R 2), .int .i64 (R 3), .int .i64 (R 4), .int .i64 (R 5), .int .i64 (R 6), .int .i64 (R 7)] := rfl
  rw [hst]
  clear hst
  go_enter Tryd.func15, Tryd.ntmps15
  go_wp2_with (go_at_call 35; rw [HX.out, HW.out]; (with_reducible refine (NM.out _).mono ?_); rintro e u1 ⟨rfl, o1⟩; have o2 := o1.alloc (.cells #[.bool false, .bool true, .bool false] 57); have b2 := BI.out.only o2 (by simp); have i1 := b2.cell 1; have i2 := b2.cell 2; have i3 := b2.cell 3; have O1 := hide o1; clear t0 o1 o2 b2)
  clear i1 i2 i3
  obtain ⟨Y, hY⟩ : ∃ Y, u1.heap.size = Y := ⟨_, rfl⟩
  have bN := (Blk.new u1 57 #[.bool false, .bool true, .bool false]).alloc (.cells #[.int .i64 d, .int .i64 ((a : Nat) : Int), .int .i64 b] 59)
  have bL := Blk.new (u1.alloc (.cells #[.bool false, .bool true, .bool false] 57)) 59 #[.int .i64 d, .int .i64 ((a : Nat) : Int), .int .i64 b]
  rw [World.size_alloc, hY] at bL
  rw [hY] at bN ⊢
  have o3 := (O1.out.alloc (.cells #[.bool false, .bool true, .bool false] 57)).alloc (.cells #[.int .i64 d, .int .i64 ((a : Nat) : Int), .int .i64 b] 59)
  obtain ⟨U, hU⟩ : ∃ U, (u1.alloc (.cells #[.bool false, .bool true, .bool false] 57)).alloc (.cells #[.int .i64 d, .int .i64 ((a : Nat) : Int), .int .i64 b] 59) = U := ⟨_, rfl⟩
  rw [hU] at bN bL o3 ⊢
  have B3I := BI.out.only o3 (by simp)
  have B3Z := hide (BZ.out.only o3 (by simp))
  have B3X := hide (BX.out.only o3 (by simp))
  have OU := hide (OW.out.trans0 o3)
  have CN := hide (fun q (hq : q < 3) => (bN.cell q).trans (nB_get false true false q hq))
  have CL := hide (fun q (hq : q < 3) => (bL.cell q).trans (lB_get d ((a : Nat) : Int) b q hq))
  have HUX := hide (show X + 3 ≤ U.heap.size by have := o3.size; have := HWX.out; omega)
  have HB3I := hide B3I
  clear hU hY bN bL o3 O1 BI BZ BX OW NM HW B3I
  go_loopw [8, 10] (fun vo vi wr => ∃ q : Nat, q ≤ 3 ∧ vi = .int .i64 q ∧ vo = .bool (okF true (nB false true false) (lB d ((a : Nat) : Int) b) q) ∧ U = wr) (fun _ vi _ => 3 - (intOf vi).toNat)
  case atStart => exact ⟨0, by omega, rfl, rfl, (by first | rfl | trivial)⟩
  case round =>
    obtain ⟨q, hq, rfl, rfl, hw⟩ := hrel
    obtain rfl := hw
    by_cases hq3 : q < 3
    · have cN := CN.out q hq3
      have cL := CL.out q hq3
      have hst : okF true (nB false true false) (lB d ((a : Nat) : Int) b) (q + 1) = (okF true (nB false true false) (lB d ((a : Nat) : Int) b) q && inReg ((nB false true false) q) ((lB d ((a : Nat) : Int) b) q)) := rfl
      obtain ⟨b0, hb0⟩ : ∃ b0, okF true (nB false true false) (lB d ((a : Nat) : Int) b) q = b0 := ⟨_, rfl⟩
      obtain ⟨nq, hnq⟩ : ∃ nq, (nB false true false) q = nq := ⟨_, rfl⟩
      obtain ⟨lq, hlq⟩ : ∃ lq, (lB d ((a : Nat) : Int) b) q = lq := ⟨_, rfl⟩
      rw [hb0, hnq, hlq] at hst
      rw [hnq] at cN
      rw [hlq] at cL
      rw [hb0]
      have HST := hide hst
      have j0 : (q : Int) < 3 := by omega
      have j1 : (0 : Int) ≤ (q : Int) := by omega
      clear hb0 hnq hlq hst
      cases b0
      · go_wp2_with fail
        go_roundw
        case rel => exact ⟨q + 1, by omega, by go_num, by rw [HST.out]; rfl, (by first | rfl | trivial)⟩
        case measure => simp [intOf]; omega
      cases nq
      · go_wp2_with fail
        go_roundw
        case rel => exact ⟨q + 1, by omega, by go_num, by rw [HST.out]; rfl, (by first | rfl | trivial)⟩
        case measure => simp [intOf]; omega
      by_cases h0 : 0 ≤ lq
      · by_cases h7 : lq ≤ 7
        · have e0 : decide (0 ≤ lq) = true := decide_eq_true h0
          have e7 : decide (lq ≤ 7) = true := decide_eq_true h7
          go_wp2_with fail
          go_roundw
          case rel => exact ⟨q + 1, by omega, by go_num, by rw [HST.out]; simp [inReg, h0, h7], (by first | rfl | trivial)⟩
          case measure => simp [intOf]; omega
        · have e0 : decide (0 ≤ lq) = true := decide_eq_true h0
          have e7 : decide (lq ≤ 7) = false := decide_eq_false h7
          go_wp2_with fail
          go_roundw
          case rel => exact ⟨q + 1, by omega, by go_num, by rw [HST.out]; simp [inReg, h0, h7], (by first | rfl | trivial)⟩
          case measure => simp [intOf]; omega
      · have e0 : decide (0 ≤ lq) = false := decide_eq_false h0
        go_wp2_with fail
        go_roundw
        case rel => exact ⟨q + 1, by omega, by go_num, by rw [HST.out]; simp [inReg, h0], (by first | rfl | trivial)⟩
        case measure => simp [intOf]; omega
    · obtain rfl : q = 3 := by omega
      rw [HF.out]
      clear CN CL HF
      have z0 : (U).cell? ⟨X + 1, 0, none⟩ = some (.int .i64 p) := B3Z.out.cell 0
      have z1 : (U).cell? ⟨X + 1, 1, none⟩ = some (.int .i64 (R 0)) := B3Z.out.cell 1
      have z2 : (U).cell? ⟨X + 1, 2, none⟩ = some (.int .i64 (R 1)) := B3Z.out.cell 2
      have z3 : (U).cell? ⟨X + 1, 3, none⟩ = some (.int .i64 (R 2)) := B3Z.out.cell 3
      have z4 : (U).cell? ⟨X + 1, 4, none⟩ = some (.int .i64 (R 3)) := B3Z.out.cell 4
      have z5 : (U).cell? ⟨X + 1, 5, none⟩ = some (.int .i64 (R 4)) := B3Z.out.cell 5
      have z6 : (U).cell? ⟨X + 1, 6, none⟩ = some (.int .i64 (R 5)) := B3Z.out.cell 6
      have z7 : (U).cell? ⟨X + 1, 7, none⟩ = some (.int .i64 (R 6)) := B3Z.out.cell 7
      have z8 : (U).cell? ⟨X + 1, 8, none⟩ = some (.int .i64 (R 7)) := B3Z.out.cell 8
      obtain ⟨pw, hpw⟩ : ∃ pw, IntKind.i64.wrap (p + 1) = pw := ⟨_, rfl⟩
      have PGF := PGF.out
      have PGF := hide PGF
      obtain ⟨V, hV⟩ : ∃ V, U.alloc (.cells #[.int .i64 pw, .int .i64 (R 0), .int .i64 (R 1), .int .i64 (R 2), .int .i64 (R 3), .int .i64 (R 4), .int .i64 (R 5), .int .i64 (R 6), .int .i64 (R 7)] 39) = V := ⟨_, rfl⟩
      have bO : Blk V U.heap.size 39 (stV pw R) := by rw [← hV]; exact Blk.new U 39 (stV pw R)
      have oV : Only [] U V := by rw [← hV]; exact (Only.refl [] U).alloc _
      have f0 : (U.alloc (.cells #[.int .i64 p, .int .i64 (R 0), .int .i64 (R 1), .int .i64 (R 2), .int .i64 (R 3), .int .i64 (R 4), .int .i64 (R 5), .int .i64 (R 6), .int .i64 (R 7)] 39)).cell? ⟨X + 1, 0, none⟩ = some (.int .i64 p) := (B3Z.out.alloc _).cell 0
      have BVI := HB3I.out.only oV (by simp)
      have BVZ := hide (B3Z.out.only oV (by simp))
      have BVX := hide (B3X.out.only oV (by simp))
      have OV := hide (OU.out.trans0 oV)
      have BO := hide bO
      clear bO oV B3Z B3X OU HB3I
      have i0 := BVI.cell 0
      have i1 := BVI.cell 1
      have i2 := BVI.cell 2
      have i3 := BVI.cell 3
      have i4 := BVI.cell 4
      clear BVI
      have j0a : (0 : Int) ≤ (a : Int) := by omega
      have j1a : (a : Int) < 8 := by omega
      have z0 : (V).cell? ⟨X + 1, 0, none⟩ = some (.int .i64 p) := BVZ.out.cell 0
      have z1 : (V).cell? ⟨X + 1, 1, none⟩ = some (.int .i64 (R 0)) := BVZ.out.cell 1
      have z2 : (V).cell? ⟨X + 1, 2, none⟩ = some (.int .i64 (R 1)) := BVZ.out.cell 2
      have z3 : (V).cell? ⟨X + 1, 3, none⟩ = some (.int .i64 (R 2)) := BVZ.out.cell 3
      have z4 : (V).cell? ⟨X + 1, 4, none⟩ = some (.int .i64 (R 3)) := BVZ.out.cell 4
      have z5 : (V).cell? ⟨X + 1, 5, none⟩ = some (.int .i64 (R 4)) := BVZ.out.cell 5
      have z6 : (V).cell? ⟨X + 1, 6, none⟩ = some (.int .i64 (R 5)) := BVZ.out.cell 6
      have z7 : (V).cell? ⟨X + 1, 7, none⟩ = some (.int .i64 (R 6)) := BVZ.out.cell 7
      have z8 : (V).cell? ⟨X + 1, 8, none⟩ = some (.int .i64 (R 7)) := BVZ.out.cell 8
      have x0 : (V).cell? ⟨X + 1 + 1, 0, none⟩ = some (.int .i64 0) := BVX.out.cell 0
      have y0 := BVX.out.frozen 0
      have x1 : (V).cell? ⟨X + 1 + 1, 1, none⟩ = some (.int .i64 0) := BVX.out.cell 1
      have y1 := BVX.out.frozen 1
      have x2 : (V).cell? ⟨X + 1 + 1, 2, none⟩ = some (.int .i64 0) := BVX.out.cell 2
      have y2 := BVX.out.frozen 2
      have x3 : (V).cell? ⟨X + 1 + 1, 3, none⟩ = some (.int .i64 0) := BVX.out.cell 3
      have y3 := BVX.out.frozen 3
      have x4 : (V).cell? ⟨X + 1 + 1, 4, none⟩ = some (.int .i64 0) := BVX.out.cell 4
      have y4 := BVX.out.frozen 4
      have x5 : (V).cell? ⟨X + 1 + 1, 5, none⟩ = some (.int .i64 0) := BVX.out.cell 5
      have y5 := BVX.out.frozen 5
      have x6 : (V).cell? ⟨X + 1 + 1, 6, none⟩ = some (.int .i64 0) := BVX.out.cell 6
      have y6 := BVX.out.frozen 6
      have x7 : (V).cell? ⟨X + 1 + 1, 7, none⟩ = some (.int .i64 0) := BVX.out.cell 7
      have y7 := BVX.out.frozen 7
      have x8 : (V).cell? ⟨X + 1 + 1, 8, none⟩ = some (.int .i64 0) := BVX.out.cell 8
      have y8 := BVX.out.frozen 8
      go_wp2_with fail
      rw [PGF.out]
      have BFF := (((((((((BVX.out).set_ 0 (.int .i64 p)).set_ 1 (.int .i64 (R 0))).set_ 2 (.int .i64 (R 1))).set_ 3 (.int .i64 (R 2))).set_ 4 (.int .i64 (R 3))).set_ 5 (.int .i64 (R 4))).set_ 6 (.int .i64 (R 5))).set_ 7 (.int .i64 (R 6))).set_ 8 (.int .i64 (R 7))
      refine bodyPost_ret (v := .tuple #[.agg (stV p (R)), .bool false]) (results_cell2b Tryd.results15 rfl rfl (load39 (p := p) (R := R) (by simpa [stV] using BFF))) rfl ⟨rfl, ?_⟩
      have OFF := (((((((((((OV.out.mono (T := [U.heap.size, X + 1 + 1]) (by simp))).setCell (p := ⟨X + 1 + 1, 0, none⟩) (.inl (by simp)) (.int .i64 p)).setCell (p := ⟨X + 1 + 1, 1, none⟩) (.inl (by simp)) (.int .i64 (R 0))).setCell (p := ⟨X + 1 + 1, 2, none⟩) (.inl (by simp)) (.int .i64 (R 1))).setCell (p := ⟨X + 1 + 1, 3, none⟩) (.inl (by simp)) (.int .i64 (R 2))).setCell (p := ⟨X + 1 + 1, 4, none⟩) (.inl (by simp)) (.int .i64 (R 3))).setCell (p := ⟨X + 1 + 1, 5, none⟩) (.inl (by simp)) (.int .i64 (R 4))).setCell (p := ⟨X + 1 + 1, 6, none⟩) (.inl (by simp)) (.int .i64 (R 5))).setCell (p := ⟨X + 1 + 1, 7, none⟩) (.inl (by simp)) (.int .i64 (R 6))).setCell (p := ⟨X + 1 + 1, 8, none⟩) (.inl (by simp)) (.int .i64 (R 7))).mono (T := []) (fun x hx => .inr (by have := HX.out; have := HUX.out; simp at hx; omega))
      first | exact OFF | exact OFF.drew
theorem stepV_no {i : Ins} {p : Int} {R : Nat → Int} (h : stepOk i = false) : stepV i p R = .tuple #[.agg (stV p R), .bool false] := by unfold stepV; rw [h]; rfl
theorem rstep_any (i : Ins) (p : Int) (R : Nat → Int) (w : World) : Calls Tryd.prog 15 #[.agg (insV i), .agg (stV p R)] w fun e w' => e = .returned (stepV i p R) ∧ Only [] w w' := by
  obtain ⟨o, d, a, b, imm⟩ := i
  unfold insV
  by_cases ho : o < 0 ∨ 8 < o
  · refine rstep_bad o d a b imm false false false false 0 (fun W => named_bad o ho W) (by rw [okF_three]; rfl) (fun p R => stepV_no (by
      unfold stepOk
      rcases ho with h | h
      · rw [decide_eq_false (show ¬ 1 ≤ o by omega)]; rfl
      · rw [decide_eq_false (show ¬ o ≤ 6 by omega)]; simp)) p R w
  obtain ⟨k, rfl⟩ : ∃ k : Nat, o = k := ⟨o.toNat, by omega⟩
  have hk : k < 9 := by omega
  by_cases hF : okF true (nB (shp k).d (shp k).a (shp k).b) (lB d a b) 3 = true
  · rw [okF_three] at hF
    rcases (by omega : k = 0 ∨ k = 1 ∨ k = 2 ∨ k = 3 ∨ k = 4 ∨ k = 5 ∨ k = 6 ∨ k = 7 ∨ k = 8) with h | h | h | h | h | h | h | h | h
    · subst h
      simp [inReg, shp] at hF
      exact rstep0 d a b imm p R w
    · subst h
      simp [inReg, shp] at hF
      obtain ⟨dn, rfl⟩ : ∃ n : Nat, d = n := ⟨d.toNat, by omega⟩
      exact rstep1 dn (by omega) a b imm p R w
    · subst h
      simp [inReg, shp] at hF
      obtain ⟨dn, rfl⟩ : ∃ n : Nat, d = n := ⟨d.toNat, by omega⟩
      obtain ⟨an, rfl⟩ : ∃ n : Nat, a = n := ⟨a.toNat, by omega⟩
      exact rstep2 dn (by omega) an (by omega) b imm p R w
    · subst h
      simp [inReg, shp] at hF
      obtain ⟨dn, rfl⟩ : ∃ n : Nat, d = n := ⟨d.toNat, by omega⟩
      obtain ⟨an, rfl⟩ : ∃ n : Nat, a = n := ⟨a.toNat, by omega⟩
      obtain ⟨bn, rfl⟩ : ∃ n : Nat, b = n := ⟨b.toNat, by omega⟩
      exact rstep3 dn (by omega) an (by omega) bn (by omega) imm p R w
    · subst h
      simp [inReg, shp] at hF
      obtain ⟨dn, rfl⟩ : ∃ n : Nat, d = n := ⟨d.toNat, by omega⟩
      obtain ⟨an, rfl⟩ : ∃ n : Nat, a = n := ⟨a.toNat, by omega⟩
      obtain ⟨bn, rfl⟩ : ∃ n : Nat, b = n := ⟨b.toNat, by omega⟩
      exact rstep4 dn (by omega) an (by omega) bn (by omega) imm p R w
    · subst h
      simp [inReg, shp] at hF
      exact rstep5 d a b imm p R w
    · subst h
      simp [inReg, shp] at hF
      obtain ⟨an, rfl⟩ : ∃ n : Nat, a = n := ⟨a.toNat, by omega⟩
      exact rstep6 d an (by omega) b imm p R w
    · subst h
      simp [inReg, shp] at hF
      exact rstep7 d a b imm p R w
    · subst h
      simp [inReg, shp] at hF
      obtain ⟨an, rfl⟩ : ∃ n : Nat, a = n := ⟨a.toNat, by omega⟩
      exact rstep8 d an (by omega) b imm p R w
  · refine rstep_bad k d a b imm (shp k).d (shp k).a (shp k).b true (shp k).imm (fun W => named_ok k hk W) (by simpa using hF) (fun p R => stepV_no (by
      rw [okF_three] at hF
      unfold stepOk
      simp only [Int.toNat_natCast, Bool.true_and] at hF ⊢
      rw [Bool.eq_false_iff.2 hF]
      simp)) p R w

end Go.Proofs.YtmaljajdmgkakaaDoor
