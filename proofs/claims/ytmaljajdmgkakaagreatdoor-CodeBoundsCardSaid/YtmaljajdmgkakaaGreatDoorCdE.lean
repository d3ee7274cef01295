/- Code: the walk of Step, the other ops. No condition. -/
import Derived.Test.YtmaljajdmgkakaaGreatDoorCdC
namespace Go.Proofs.YtmaljajdmgkakaaGreatDoor
open Go.RowKit
open Go.Maps (Keyed)
set_option linter.unusedVariables false
set_option linter.all false
set_option maxRecDepth 20000

set_option maxHeartbeats 8000000 in
theorem step4_badd (d : Int) (hd : d < 0 ∨ 7 < d) (a : Int) (b : Int) (imm p : Int) (R : Nat → Int) (w : World) : Calls Tryz.prog 45 #[.agg #[.int .i64 (4), .int .i64 d, .int .i64 a, .int .i64 b, .int .i64 imm], .agg (stV p R)] w fun e w' => e = .returned (stepV ⟨4, d, a, b, imm⟩ p R) ∧ Only [] w w' := by
  have PGF := hide (show stepV ⟨4, d, a, b, imm⟩ p R = .tuple #[.agg (stV p R), .bool false] from by
    have h1 : stepOk ⟨4, d, a, b, imm⟩ = false := by
      rw [Bool.eq_false_iff]
      unfold stepOk inReg
      simp [shp]
      omega
    unfold stepV
    rw [h1]
    rfl)
  obtain ⟨X, hX⟩ : ∃ X, w.heap.size = X := ⟨_, rfl⟩
  obtain ⟨W, hW⟩ : ∃ W, ((w.alloc (.cells #[.int .i64 (4), .int .i64 d, .int .i64 a, .int .i64 b, .int .i64 imm] 25)).alloc (.cells (stV p R) 98)).alloc (.cells #[.int .i64 0, .int .i64 0, .int .i64 0, .int .i64 0, .int .i64 0, .int .i64 0, .int .i64 0, .int .i64 0, .int .i64 0] 98) = W := ⟨_, rfl⟩
  have oW : Only [] w W := by rw [← hW]; exact (((Only.refl [] w).alloc _).alloc _).alloc _
  have bI : Blk W X 25 #[.int .i64 (4), .int .i64 d, .int .i64 a, .int .i64 b, .int .i64 imm] := by rw [← hW, ← hX]; exact ((Blk.new w 25 _).alloc _).alloc _
  have bZ : Blk W (X + 1) 98 (stV p R) := by
    have := (Blk.new (w.alloc (.cells #[.int .i64 (4), .int .i64 d, .int .i64 a, .int .i64 b, .int .i64 imm] 25)) 98 (stV p R)).alloc (.cells #[.int .i64 0, .int .i64 0, .int .i64 0, .int .i64 0, .int .i64 0, .int .i64 0, .int .i64 0, .int .i64 0, .int .i64 0] 98)
    rw [World.size_alloc, hX, hW] at this
    exact this
  have bX : Blk W (X + 1 + 1) 98 #[.int .i64 0, .int .i64 0, .int .i64 0, .int .i64 0, .int .i64 0, .int .i64 0, .int .i64 0, .int .i64 0, .int .i64 0] := by
    have := Blk.new ((w.alloc (.cells #[.int .i64 (4), .int .i64 d, .int .i64 a, .int .i64 b, .int .i64 imm] 25)).alloc (.cells (stV p R) 98)) 98 #[.int .i64 0, .int .i64 0, .int .i64 0, .int .i64 0, .int .i64 0, .int .i64 0, .int .i64 0, .int .i64 0, .int .i64 0]
    rw [World.size_alloc, World.size_alloc, hX, hW] at this
    exact this
  have CI := hide (fun V (ov : Only [] W V) => show V.cell? ⟨X, 0, none⟩ = some (.int .i64 (4)) from (bI.only ov (by simp)).cell 0)
  have DA := hide (fun V => does_any V)
  have HX := hide hX
  have HWX := hide (show X + 3 ≤ W.heap.size by have := bX.lt; omega)
  have OW := hide oW
  have BI := hide bI
  have BZ := hide bZ
  have BX := hide bX
  have LK := hide (fun (V : World) (mb nn : Nat) (h : Mp Tryz.prog 23 V mb (dF 6) nn) => show (Instr.lookup 132 (.map (some mb)) (.int .i64 4) true).run Tryz.prog V = .ok (.tuple #[.func (.func 102) #[] #[], .bool true]) V from by
    obtain ⟨l, hl⟩ := key22 4 (by decide)
    exact (h.look keyed22 Tryz.underlying132 hl (dF_some 6 4 (by omega) (by omega))).2)
  obtain ⟨nm, hnm⟩ : ∃ nm, ByteArray.mk (nmB 4).toArray = nm := ⟨_, rfl⟩
  have OF := hide (fun W => show Calls Tryz.prog 37 #[.int .i64 4] W fun e w' => e = .returned (.tuple #[.agg #[.string nm, .bool true, .bool true, .bool true, .int .i64 0], .bool true]) ∧ Only [] W w' from by rw [← hnm]; exact of_ok 4 (by decide) W)
  have INd := hide (fun W => show Calls Tryz.prog 82 #[.int .i64 d] W fun e w' => e = .returned (.bool false) ∧ w' = W from (inOk_any d W).mono fun e w' ⟨h1, h2⟩ => ⟨by rw [h1]; rcases hd with h | h; (rw [decide_eq_false (show ¬ 0 ≤ d by omega)]; rfl); (rw [decide_eq_false (show ¬ d ≤ 7 by omega), Bool.and_false]), h2⟩)
  skip
  unfold stV at hW
  have HW := hide hW
  clear oW bI bZ bX hX hW
  have hst : stV p R = #[.int .i64 p, .int .i64 (R 0), .int .i64 (R 1), .int .i64 (R 2), .int .i64 (R 3), .int .i64 (R 4), .int .i64 (R 5), .int .i64 (R 6), .int .i64 (R 7)] := rfl
  rw [hst]
  clear hst
  go_enter Tryz.func45, Tryz.ntmps45
  go_wp2_with fail
  rw [HX.out, HW.out]
  refine wp_region_held_drew (S := (fun V => Only [] W V)) (by kernel_rfl) ((Only.refl _ W).drew) (fun hHeld => ?_)
  revert hHeld
  generalize W.drew = u0
  intro hHeld
  obtain ⟨mb, hmb⟩ : ∃ mb, u0.heap.size = mb := ⟨_, rfl⟩
  refine wpAnyH_take (i := 1) (oi := ⟨some 13, _, _, _, _, _⟩) (v := ?vs11_1) rfl (by kernel_rfl) (by kernel_rfl) (by kernel_rfl) (fun _ _ _ h => h) (Or.inl ⟨by rfl, ?hys11_1⟩) (by assumption) ?rests11_1
  case hys11_1 => (intro V hSw; (try dsimp only at hSw); go_simp; first | done | (with_reducible rfl))
  try simp only [Act.put, List.setIfInBounds_toArray, List.set_cons_zero, List.set_cons_succ]
  refine wpAnyH_take (i := 2) (oi := ⟨some 14, _, _, _, _, _⟩) (v := ?vs11_2) rfl (by kernel_rfl) (by kernel_rfl) (by kernel_rfl) (fun _ _ _ h => h) (Or.inl ⟨by rfl, ?hys11_2⟩) (by assumption) ?rests11_2
  case hys11_2 => (intro V hSw; (try dsimp only at hSw); have z := CI.out V hSw; go_simp; first | done | (with_reducible rfl))
  try simp only [Act.put, List.setIfInBounds_toArray, List.set_cons_zero, List.set_cons_succ]
  refine wpAnyH_ready (rs := [0]) (by kernel_rfl) (by simp) ?_
  refine AllReadyH.cons (o := ⟨some 12, _, _, _, _, _⟩) rfl (fun K hK => ?_) (AllReadyH.nil)
  rw [if_pos (by rfl)]
  go_simp
  (with_reducible refine (DA.out _).mono ?_); rintro e u1 ⟨rfl, ⟨nn, MP⟩, o'⟩; rw [hmb] at MP ⊢; have MP := hide MP; have OS := hide ((show Only [] W u0 from hHeld).trans0 o')
  try dsimp only
  refine hK.out _ _ (OS.out) (fun hHeld => ?_)
  clear hK K
  try simp only [Act.put, List.setIfInBounds_toArray, List.set_cons_zero, List.set_cons_succ]
  refine wpAnyH_ready (rs := [3]) (by kernel_rfl) (by simp) ?_
  refine AllReadyH.cons (o := ⟨some 15, _, _, _, _, _⟩) rfl (fun K hK => ?_) (AllReadyH.nil)
  rw [if_pos (by rfl)]
  have z := LK.out _ _ _ MP.out
  go_simp
  try dsimp only
  refine hK.out _ _ ((show Only [] W u1 from hHeld)) (fun hHeld => ?_)
  clear hK K
  try simp only [Act.put, List.setIfInBounds_toArray, List.set_cons_zero, List.set_cons_succ]
  refine wpAnyH_take (i := 4) (oi := ⟨some 11, _, _, _, _, _⟩) (v := ?vs11_3) rfl (by kernel_rfl) (by kernel_rfl) (by kernel_rfl) (fun _ _ _ h => h) (Or.inl ⟨by rfl, ?hys11_3⟩) (by assumption) ?rests11_3
  case hys11_3 => (intro V hSw; (try dsimp only at hSw); go_simp; first | done | (with_reducible rfl))
  try simp only [Act.put, List.setIfInBounds_toArray, List.set_cons_zero, List.set_cons_succ]
  refine wpAnyH_take (i := 5) (oi := ⟨some 16, _, _, _, _, _⟩) (v := ?vs11_4) rfl (by kernel_rfl) (by kernel_rfl) (by kernel_rfl) (fun _ _ _ h => h) (Or.inl ⟨by rfl, ?hys11_4⟩) (by assumption) ?rests11_4
  case hys11_4 => (intro V hSw; (try dsimp only at hSw); go_simp; first | done | (with_reducible rfl))
  try simp only [Act.put, List.setIfInBounds_toArray, List.set_cons_zero, List.set_cons_succ]
  refine wpAnyH_take (i := 6) (oi := ⟨some 17, _, _, _, _, _⟩) (v := ?vs11_5) rfl (by kernel_rfl) (by kernel_rfl) (by kernel_rfl) (fun _ _ _ h => h) (Or.inl ⟨by rfl, ?hys11_5⟩) (by assumption) ?rests11_5
  case hys11_5 => (intro V hSw; (try dsimp only at hSw); go_simp; first | done | (with_reducible rfl))
  try simp only [Act.put, List.setIfInBounds_toArray, List.set_cons_zero, List.set_cons_succ]
  refine wpAnyH_take (i := 7) (oi := ⟨some 6, _, _, _, _, _⟩) (v := ?vs11_6) rfl (by kernel_rfl) (by kernel_rfl) (by kernel_rfl) (fun _ _ _ h => h) (Or.inl ⟨by rfl, ?hys11_6⟩) (by assumption) ?rests11_6
  case hys11_6 => (intro V hSw; (try dsimp only at hSw); go_simp; first | done | (with_reducible rfl))
  try simp only [Act.put, List.setIfInBounds_toArray, List.set_cons_zero, List.set_cons_succ]
  refine wpAnyH_take (i := 8) (oi := ⟨some 7, _, _, _, _, _⟩) (v := ?vs11_7) rfl (by kernel_rfl) (by kernel_rfl) (by kernel_rfl) (fun _ _ _ h => h) (Or.inl ⟨by rfl, ?hys11_7⟩) (by assumption) ?rests11_7
  case hys11_7 => (intro V hSw; (try dsimp only at hSw); go_simp; first | done | (with_reducible rfl))
  try simp only [Act.put, List.setIfInBounds_toArray, List.set_cons_zero, List.set_cons_succ]
  refine wpAnyH_done (by kernel_rfl) ?_ _
  have OS := hide (show Only [] W u1 from hHeld)
  have t0 := (BI.out.only OS.out (by simp)).cell 0
  clear hHeld hmb MP LK DA CI
  go_wp2_with (first
    | (go_at_call 37; (with_reducible refine (OF.out _).mono ?_); rintro e u2 ⟨rfl, o2⟩; have oo := (OS.out.trans0 o2).alloc (.cells #[.string nm, .bool true, .bool true, .bool true, .int .i64 0] 83); have B3I := BI.out.only oo (by simp); have B3Z := hide (BZ.out.only oo (by simp)); have B3X := hide (BX.out.only oo (by simp)); have O3 := hide (OW.out.trans0 oo); have B3O := Blk.new u2 83 #[.string nm, .bool true, .bool true, .bool true, .int .i64 0]; have i0 := B3I.cell 0; have i1 := B3I.cell 1; have i2 := B3I.cell 2; have i3 := B3I.cell 3; have i4 := B3I.cell 4; have q1 := B3O.cell 1; have q2 := B3O.cell 2; have q3 := B3O.cell 3; have z0 : (u2.alloc (.cells #[.string nm, .bool true, .bool true, .bool true, .int .i64 0] 83)).cell? ⟨X + 1, 0, none⟩ = some (.int .i64 p) := B3Z.out.cell 0; have z1 : (u2.alloc (.cells #[.string nm, .bool true, .bool true, .bool true, .int .i64 0] 83)).cell? ⟨X + 1, 1, none⟩ = some (.int .i64 (R 0)) := B3Z.out.cell 1; have z2 : (u2.alloc (.cells #[.string nm, .bool true, .bool true, .bool true, .int .i64 0] 83)).cell? ⟨X + 1, 2, none⟩ = some (.int .i64 (R 1)) := B3Z.out.cell 2; have z3 : (u2.alloc (.cells #[.string nm, .bool true, .bool true, .bool true, .int .i64 0] 83)).cell? ⟨X + 1, 3, none⟩ = some (.int .i64 (R 2)) := B3Z.out.cell 3; have z4 : (u2.alloc (.cells #[.string nm, .bool true, .bool true, .bool true, .int .i64 0] 83)).cell? ⟨X + 1, 4, none⟩ = some (.int .i64 (R 3)) := B3Z.out.cell 4; have z5 : (u2.alloc (.cells #[.string nm, .bool true, .bool true, .bool true, .int .i64 0] 83)).cell? ⟨X + 1, 5, none⟩ = some (.int .i64 (R 4)) := B3Z.out.cell 5; have z6 : (u2.alloc (.cells #[.string nm, .bool true, .bool true, .bool true, .int .i64 0] 83)).cell? ⟨X + 1, 6, none⟩ = some (.int .i64 (R 5)) := B3Z.out.cell 6; have z7 : (u2.alloc (.cells #[.string nm, .bool true, .bool true, .bool true, .int .i64 0] 83)).cell? ⟨X + 1, 7, none⟩ = some (.int .i64 (R 6)) := B3Z.out.cell 7; have z8 : (u2.alloc (.cells #[.string nm, .bool true, .bool true, .bool true, .int .i64 0] 83)).cell? ⟨X + 1, 8, none⟩ = some (.int .i64 (R 7)) := B3Z.out.cell 8; have x0 : (u2.alloc (.cells #[.string nm, .bool true, .bool true, .bool true, .int .i64 0] 83)).cell? ⟨X + 1 + 1, 0, none⟩ = some (.int .i64 0) := B3X.out.cell 0; have y0 := B3X.out.frozen 0; have x1 : (u2.alloc (.cells #[.string nm, .bool true, .bool true, .bool true, .int .i64 0] 83)).cell? ⟨X + 1 + 1, 1, none⟩ = some (.int .i64 0) := B3X.out.cell 1; have y1 := B3X.out.frozen 1; have x2 : (u2.alloc (.cells #[.string nm, .bool true, .bool true, .bool true, .int .i64 0] 83)).cell? ⟨X + 1 + 1, 2, none⟩ = some (.int .i64 0) := B3X.out.cell 2; have y2 := B3X.out.frozen 2; have x3 : (u2.alloc (.cells #[.string nm, .bool true, .bool true, .bool true, .int .i64 0] 83)).cell? ⟨X + 1 + 1, 3, none⟩ = some (.int .i64 0) := B3X.out.cell 3; have y3 := B3X.out.frozen 3; have x4 : (u2.alloc (.cells #[.string nm, .bool true, .bool true, .bool true, .int .i64 0] 83)).cell? ⟨X + 1 + 1, 4, none⟩ = some (.int .i64 0) := B3X.out.cell 4; have y4 := B3X.out.frozen 4; have x5 : (u2.alloc (.cells #[.string nm, .bool true, .bool true, .bool true, .int .i64 0] 83)).cell? ⟨X + 1 + 1, 5, none⟩ = some (.int .i64 0) := B3X.out.cell 5; have y5 := B3X.out.frozen 5; have x6 : (u2.alloc (.cells #[.string nm, .bool true, .bool true, .bool true, .int .i64 0] 83)).cell? ⟨X + 1 + 1, 6, none⟩ = some (.int .i64 0) := B3X.out.cell 6; have y6 := B3X.out.frozen 6; have x7 : (u2.alloc (.cells #[.string nm, .bool true, .bool true, .bool true, .int .i64 0] 83)).cell? ⟨X + 1 + 1, 7, none⟩ = some (.int .i64 0) := B3X.out.cell 7; have y7 := B3X.out.frozen 7; have x8 : (u2.alloc (.cells #[.string nm, .bool true, .bool true, .bool true, .int .i64 0] 83)).cell? ⟨X + 1 + 1, 8, none⟩ = some (.int .i64 0) := B3X.out.cell 8; have y8 := B3X.out.frozen 8; clear oo o2 B3I B3O)
    | (go_at_call 82; (with_reducible refine (INd.out _).mono ?_); rintro e w' ⟨rfl, hw⟩; obtain rfl := hw.symm; clear hw))
  rw [PGF.out]
  have BFF := (((((((((B3X.out).set_ 0 (.int .i64 p)).set_ 1 (.int .i64 (R 0))).set_ 2 (.int .i64 (R 1))).set_ 3 (.int .i64 (R 2))).set_ 4 (.int .i64 (R 3))).set_ 5 (.int .i64 (R 4))).set_ 6 (.int .i64 (R 5))).set_ 7 (.int .i64 (R 6))).set_ 8 (.int .i64 (R 7))
  refine bodyPost_ret (v := .tuple #[.agg (stV p (R)), .bool false]) (results_cell2b Tryz.results45 rfl rfl (load39 (p := p) (R := R) (by simpa [stV] using BFF))) rfl ⟨rfl, ?_⟩
  exact (((((((((((O3.out.mono (T := [X + 1 + 1]) (by simp))).setCell (p := ⟨X + 1 + 1, 0, none⟩) (.inl (by simp)) _).setCell (p := ⟨X + 1 + 1, 1, none⟩) (.inl (by simp)) _).setCell (p := ⟨X + 1 + 1, 2, none⟩) (.inl (by simp)) _).setCell (p := ⟨X + 1 + 1, 3, none⟩) (.inl (by simp)) _).setCell (p := ⟨X + 1 + 1, 4, none⟩) (.inl (by simp)) _).setCell (p := ⟨X + 1 + 1, 5, none⟩) (.inl (by simp)) _).setCell (p := ⟨X + 1 + 1, 6, none⟩) (.inl (by simp)) _).setCell (p := ⟨X + 1 + 1, 7, none⟩) (.inl (by simp)) _).setCell (p := ⟨X + 1 + 1, 8, none⟩) (.inl (by simp)) _).mono (fun x hx => .inr (by have := HX.out; simp at hx; omega))
set_option maxHeartbeats 8000000 in
theorem step4_bada (d : Nat) (hd : d < 8) (a : Int) (ha : a < 0 ∨ 7 < a) (b : Int) (imm p : Int) (R : Nat → Int) (w : World) : Calls Tryz.prog 45 #[.agg #[.int .i64 (4), .int .i64 ((d : Nat) : Int), .int .i64 a, .int .i64 b, .int .i64 imm], .agg (stV p R)] w fun e w' => e = .returned (stepV ⟨4, ((d : Nat) : Int), a, b, imm⟩ p R) ∧ Only [] w w' := by
  have PGF := hide (show stepV ⟨4, ((d : Nat) : Int), a, b, imm⟩ p R = .tuple #[.agg (stV p R), .bool false] from by
    have h1 : stepOk ⟨4, ((d : Nat) : Int), a, b, imm⟩ = false := by
      rw [Bool.eq_false_iff]
      unfold stepOk inReg
      simp [shp]
      omega
    unfold stepV
    rw [h1]
    rfl)
  obtain ⟨X, hX⟩ : ∃ X, w.heap.size = X := ⟨_, rfl⟩
  obtain ⟨W, hW⟩ : ∃ W, ((w.alloc (.cells #[.int .i64 (4), .int .i64 ((d : Nat) : Int), .int .i64 a, .int .i64 b, .int .i64 imm] 25)).alloc (.cells (stV p R) 98)).alloc (.cells #[.int .i64 0, .int .i64 0, .int .i64 0, .int .i64 0, .int .i64 0, .int .i64 0, .int .i64 0, .int .i64 0, .int .i64 0] 98) = W := ⟨_, rfl⟩
  have oW : Only [] w W := by rw [← hW]; exact (((Only.refl [] w).alloc _).alloc _).alloc _
  have bI : Blk W X 25 #[.int .i64 (4), .int .i64 ((d : Nat) : Int), .int .i64 a, .int .i64 b, .int .i64 imm] := by rw [← hW, ← hX]; exact ((Blk.new w 25 _).alloc _).alloc _
  have bZ : Blk W (X + 1) 98 (stV p R) := by
    have := (Blk.new (w.alloc (.cells #[.int .i64 (4), .int .i64 ((d : Nat) : Int), .int .i64 a, .int .i64 b, .int .i64 imm] 25)) 98 (stV p R)).alloc (.cells #[.int .i64 0, .int .i64 0, .int .i64 0, .int .i64 0, .int .i64 0, .int .i64 0, .int .i64 0, .int .i64 0, .int .i64 0] 98)
    rw [World.size_alloc, hX, hW] at this
    exact this
  have bX : Blk W (X + 1 + 1) 98 #[.int .i64 0, .int .i64 0, .int .i64 0, .int .i64 0, .int .i64 0, .int .i64 0, .int .i64 0, .int .i64 0, .int .i64 0] := by
    have := Blk.new ((w.alloc (.cells #[.int .i64 (4), .int .i64 ((d : Nat) : Int), .int .i64 a, .int .i64 b, .int .i64 imm] 25)).alloc (.cells (stV p R) 98)) 98 #[.int .i64 0, .int .i64 0, .int .i64 0, .int .i64 0, .int .i64 0, .int .i64 0, .int .i64 0, .int .i64 0, .int .i64 0]
    rw [World.size_alloc, World.size_alloc, hX, hW] at this
    exact this
  have CI := hide (fun V (ov : Only [] W V) => show V.cell? ⟨X, 0, none⟩ = some (.int .i64 (4)) from (bI.only ov (by simp)).cell 0)
  have DA := hide (fun V => does_any V)
  have HX := hide hX
  have HWX := hide (show X + 3 ≤ W.heap.size by have := bX.lt; omega)
  have OW := hide oW
  have BI := hide bI
  have BZ := hide bZ
  have BX := hide bX
  have LK := hide (fun (V : World) (mb nn : Nat) (h : Mp Tryz.prog 23 V mb (dF 6) nn) => show (Instr.lookup 132 (.map (some mb)) (.int .i64 4) true).run Tryz.prog V = .ok (.tuple #[.func (.func 102) #[] #[], .bool true]) V from by
    obtain ⟨l, hl⟩ := key22 4 (by decide)
    exact (h.look keyed22 Tryz.underlying132 hl (dF_some 6 4 (by omega) (by omega))).2)
  obtain ⟨nm, hnm⟩ : ∃ nm, ByteArray.mk (nmB 4).toArray = nm := ⟨_, rfl⟩
  have OF := hide (fun W => show Calls Tryz.prog 37 #[.int .i64 4] W fun e w' => e = .returned (.tuple #[.agg #[.string nm, .bool true, .bool true, .bool true, .int .i64 0], .bool true]) ∧ Only [] W w' from by rw [← hnm]; exact of_ok 4 (by decide) W)
  have INd := hide (fun W => show Calls Tryz.prog 82 #[.int .i64 ((d : Nat) : Int)] W fun e w' => e = .returned (.bool true) ∧ w' = W from (inOk_any ((d : Nat) : Int) W).mono fun e w' ⟨h1, h2⟩ => ⟨by rw [h1, decide_eq_true (show (0 : Int) ≤ d by omega), decide_eq_true (show (d : Int) ≤ 7 by omega)]; rfl, h2⟩)
  have INa := hide (fun W => show Calls Tryz.prog 82 #[.int .i64 a] W fun e w' => e = .returned (.bool false) ∧ w' = W from (inOk_any a W).mono fun e w' ⟨h1, h2⟩ => ⟨by rw [h1]; rcases ha with h | h; (rw [decide_eq_false (show ¬ 0 ≤ a by omega)]; rfl); (rw [decide_eq_false (show ¬ a ≤ 7 by omega), Bool.and_false]), h2⟩)
  skip
  unfold stV at hW
  have HW := hide hW
  clear oW bI bZ bX hX hW
  have hst : stV p R = #[.int .i64 p, .int .i64 (R 0), .int .i64 (R 1), .int .i64 (R 2), .int .i64 (R 3), .int .i64 (R 4), .int .i64 (R 5), .int .i64 (R 6), .int .i64 (R 7)] := rfl
  rw [hst]
  clear hst
  go_enter Tryz.func45, Tryz.ntmps45
  go_wp2_with fail
  rw [HX.out, HW.out]
  refine wp_region_held_drew (S := (fun V => Only [] W V)) (by kernel_rfl) ((Only.refl _ W).drew) (fun hHeld => ?_)
  revert hHeld
  generalize W.drew = u0
  intro hHeld
  obtain ⟨mb, hmb⟩ : ∃ mb, u0.heap.size = mb := ⟨_, rfl⟩
  refine wpAnyH_take (i := 1) (oi := ⟨some 13, _, _, _, _, _⟩) (v := ?vs12_1) rfl (by kernel_rfl) (by kernel_rfl) (by kernel_rfl) (fun _ _ _ h => h) (Or.inl ⟨by rfl, ?hys12_1⟩) (by assumption) ?rests12_1
  case hys12_1 => (intro V hSw; (try dsimp only at hSw); go_simp; first | done | (with_reducible rfl))
  try simp only [Act.put, List.setIfInBounds_toArray, List.set_cons_zero, List.set_cons_succ]
  refine wpAnyH_take (i := 2) (oi := ⟨some 14, _, _, _, _, _⟩) (v := ?vs12_2) rfl (by kernel_rfl) (by kernel_rfl) (by kernel_rfl) (fun _ _ _ h => h) (Or.inl ⟨by rfl, ?hys12_2⟩) (by assumption) ?rests12_2
  case hys12_2 => (intro V hSw; (try dsimp only at hSw); have z := CI.out V hSw; go_simp; first | done | (with_reducible rfl))
  try simp only [Act.put, List.setIfInBounds_toArray, List.set_cons_zero, List.set_cons_succ]
  refine wpAnyH_ready (rs := [0]) (by kernel_rfl) (by simp) ?_
  refine AllReadyH.cons (o := ⟨some 12, _, _, _, _, _⟩) rfl (fun K hK => ?_) (AllReadyH.nil)
  rw [if_pos (by rfl)]
  go_simp
  (with_reducible refine (DA.out _).mono ?_); rintro e u1 ⟨rfl, ⟨nn, MP⟩, o'⟩; rw [hmb] at MP ⊢; have MP := hide MP; have OS := hide ((show Only [] W u0 from hHeld).trans0 o')
  try dsimp only
  refine hK.out _ _ (OS.out) (fun hHeld => ?_)
  clear hK K
  try simp only [Act.put, List.setIfInBounds_toArray, List.set_cons_zero, List.set_cons_succ]
  refine wpAnyH_ready (rs := [3]) (by kernel_rfl) (by simp) ?_
  refine AllReadyH.cons (o := ⟨some 15, _, _, _, _, _⟩) rfl (fun K hK => ?_) (AllReadyH.nil)
  rw [if_pos (by rfl)]
  have z := LK.out _ _ _ MP.out
  go_simp
  try dsimp only
  refine hK.out _ _ ((show Only [] W u1 from hHeld)) (fun hHeld => ?_)
  clear hK K
  try simp only [Act.put, List.setIfInBounds_toArray, List.set_cons_zero, List.set_cons_succ]
  refine wpAnyH_take (i := 4) (oi := ⟨some 11, _, _, _, _, _⟩) (v := ?vs12_3) rfl (by kernel_rfl) (by kernel_rfl) (by kernel_rfl) (fun _ _ _ h => h) (Or.inl ⟨by rfl, ?hys12_3⟩) (by assumption) ?rests12_3
  case hys12_3 => (intro V hSw; (try dsimp only at hSw); go_simp; first | done | (with_reducible rfl))
  try simp only [Act.put, List.setIfInBounds_toArray, List.set_cons_zero, List.set_cons_succ]
  refine wpAnyH_take (i := 5) (oi := ⟨some 16, _, _, _, _, _⟩) (v := ?vs12_4) rfl (by kernel_rfl) (by kernel_rfl) (by kernel_rfl) (fun _ _ _ h => h) (Or.inl ⟨by rfl, ?hys12_4⟩) (by assumption) ?rests12_4
  case hys12_4 => (intro V hSw; (try dsimp only at hSw); go_simp; first | done | (with_reducible rfl))
  try simp only [Act.put, List.setIfInBounds_toArray, List.set_cons_zero, List.set_cons_succ]
  refine wpAnyH_take (i := 6) (oi := ⟨some 17, _, _, _, _, _⟩) (v := ?vs12_5) rfl (by kernel_rfl) (by kernel_rfl) (by kernel_rfl) (fun _ _ _ h => h) (Or.inl ⟨by rfl, ?hys12_5⟩) (by assumption) ?rests12_5
  case hys12_5 => (intro V hSw; (try dsimp only at hSw); go_simp; first | done | (with_reducible rfl))
  try simp only [Act.put, List.setIfInBounds_toArray, List.set_cons_zero, List.set_cons_succ]
  refine wpAnyH_take (i := 7) (oi := ⟨some 6, _, _, _, _, _⟩) (v := ?vs12_6) rfl (by kernel_rfl) (by kernel_rfl) (by kernel_rfl) (fun _ _ _ h => h) (Or.inl ⟨by rfl, ?hys12_6⟩) (by assumption) ?rests12_6
  case hys12_6 => (intro V hSw; (try dsimp only at hSw); go_simp; first | done | (with_reducible rfl))
  try simp only [Act.put, List.setIfInBounds_toArray, List.set_cons_zero, List.set_cons_succ]
  refine wpAnyH_take (i := 8) (oi := ⟨some 7, _, _, _, _, _⟩) (v := ?vs12_7) rfl (by kernel_rfl) (by kernel_rfl) (by kernel_rfl) (fun _ _ _ h => h) (Or.inl ⟨by rfl, ?hys12_7⟩) (by assumption) ?rests12_7
  case hys12_7 => (intro V hSw; (try dsimp only at hSw); go_simp; first | done | (with_reducible rfl))
  try simp only [Act.put, List.setIfInBounds_toArray, List.set_cons_zero, List.set_cons_succ]
  refine wpAnyH_done (by kernel_rfl) ?_ _
  have OS := hide (show Only [] W u1 from hHeld)
  have t0 := (BI.out.only OS.out (by simp)).cell 0
  clear hHeld hmb MP LK DA CI
  go_wp2_with (first
    | (go_at_call 37; (with_reducible refine (OF.out _).mono ?_); rintro e u2 ⟨rfl, o2⟩; have oo := (OS.out.trans0 o2).alloc (.cells #[.string nm, .bool true, .bool true, .bool true, .int .i64 0] 83); have B3I := BI.out.only oo (by simp); have B3Z := hide (BZ.out.only oo (by simp)); have B3X := hide (BX.out.only oo (by simp)); have O3 := hide (OW.out.trans0 oo); have B3O := Blk.new u2 83 #[.string nm, .bool true, .bool true, .bool true, .int .i64 0]; have i0 := B3I.cell 0; have i1 := B3I.cell 1; have i2 := B3I.cell 2; have i3 := B3I.cell 3; have i4 := B3I.cell 4; have q1 := B3O.cell 1; have q2 := B3O.cell 2; have q3 := B3O.cell 3; have z0 : (u2.alloc (.cells #[.string nm, .bool true, .bool true, .bool true, .int .i64 0] 83)).cell? ⟨X + 1, 0, none⟩ = some (.int .i64 p) := B3Z.out.cell 0; have z1 : (u2.alloc (.cells #[.string nm, .bool true, .bool true, .bool true, .int .i64 0] 83)).cell? ⟨X + 1, 1, none⟩ = some (.int .i64 (R 0)) := B3Z.out.cell 1; have z2 : (u2.alloc (.cells #[.string nm, .bool true, .bool true, .bool true, .int .i64 0] 83)).cell? ⟨X + 1, 2, none⟩ = some (.int .i64 (R 1)) := B3Z.out.cell 2; have z3 : (u2.alloc (.cells #[.string nm, .bool true, .bool true, .bool true, .int .i64 0] 83)).cell? ⟨X + 1, 3, none⟩ = some (.int .i64 (R 2)) := B3Z.out.cell 3; have z4 : (u2.alloc (.cells #[.string nm, .bool true, .bool true, .bool true, .int .i64 0] 83)).cell? ⟨X + 1, 4, none⟩ = some (.int .i64 (R 3)) := B3Z.out.cell 4; have z5 : (u2.alloc (.cells #[.string nm, .bool true, .bool true, .bool true, .int .i64 0] 83)).cell? ⟨X + 1, 5, none⟩ = some (.int .i64 (R 4)) := B3Z.out.cell 5; have z6 : (u2.alloc (.cells #[.string nm, .bool true, .bool true, .bool true, .int .i64 0] 83)).cell? ⟨X + 1, 6, none⟩ = some (.int .i64 (R 5)) := B3Z.out.cell 6; have z7 : (u2.alloc (.cells #[.string nm, .bool true, .bool true, .bool true, .int .i64 0] 83)).cell? ⟨X + 1, 7, none⟩ = some (.int .i64 (R 6)) := B3Z.out.cell 7; have z8 : (u2.alloc (.cells #[.string nm, .bool true, .bool true, .bool true, .int .i64 0] 83)).cell? ⟨X + 1, 8, none⟩ = some (.int .i64 (R 7)) := B3Z.out.cell 8; have x0 : (u2.alloc (.cells #[.string nm, .bool true, .bool true, .bool true, .int .i64 0] 83)).cell? ⟨X + 1 + 1, 0, none⟩ = some (.int .i64 0) := B3X.out.cell 0; have y0 := B3X.out.frozen 0; have x1 : (u2.alloc (.cells #[.string nm, .bool true, .bool true, .bool true, .int .i64 0] 83)).cell? ⟨X + 1 + 1, 1, none⟩ = some (.int .i64 0) := B3X.out.cell 1; have y1 := B3X.out.frozen 1; have x2 : (u2.alloc (.cells #[.string nm, .bool true, .bool true, .bool true, .int .i64 0] 83)).cell? ⟨X + 1 + 1, 2, none⟩ = some (.int .i64 0) := B3X.out.cell 2; have y2 := B3X.out.frozen 2; have x3 : (u2.alloc (.cells #[.string nm, .bool true, .bool true, .bool true, .int .i64 0] 83)).cell? ⟨X + 1 + 1, 3, none⟩ = some (.int .i64 0) := B3X.out.cell 3; have y3 := B3X.out.frozen 3; have x4 : (u2.alloc (.cells #[.string nm, .bool true, .bool true, .bool true, .int .i64 0] 83)).cell? ⟨X + 1 + 1, 4, none⟩ = some (.int .i64 0) := B3X.out.cell 4; have y4 := B3X.out.frozen 4; have x5 : (u2.alloc (.cells #[.string nm, .bool true, .bool true, .bool true, .int .i64 0] 83)).cell? ⟨X + 1 + 1, 5, none⟩ = some (.int .i64 0) := B3X.out.cell 5; have y5 := B3X.out.frozen 5; have x6 : (u2.alloc (.cells #[.string nm, .bool true, .bool true, .bool true, .int .i64 0] 83)).cell? ⟨X + 1 + 1, 6, none⟩ = some (.int .i64 0) := B3X.out.cell 6; have y6 := B3X.out.frozen 6; have x7 : (u2.alloc (.cells #[.string nm, .bool true, .bool true, .bool true, .int .i64 0] 83)).cell? ⟨X + 1 + 1, 7, none⟩ = some (.int .i64 0) := B3X.out.cell 7; have y7 := B3X.out.frozen 7; have x8 : (u2.alloc (.cells #[.string nm, .bool true, .bool true, .bool true, .int .i64 0] 83)).cell? ⟨X + 1 + 1, 8, none⟩ = some (.int .i64 0) := B3X.out.cell 8; have y8 := B3X.out.frozen 8; clear oo o2 B3I B3O)
    | (go_at_call 82; (with_reducible refine (INd.out _).mono ?_); rintro e w' ⟨rfl, hw⟩; obtain rfl := hw.symm; clear hw)
    | (go_at_call 82; (with_reducible refine (INa.out _).mono ?_); rintro e w' ⟨rfl, hw⟩; obtain rfl := hw.symm; clear hw))
  rw [PGF.out]
  have BFF := (((((((((B3X.out).set_ 0 (.int .i64 p)).set_ 1 (.int .i64 (R 0))).set_ 2 (.int .i64 (R 1))).set_ 3 (.int .i64 (R 2))).set_ 4 (.int .i64 (R 3))).set_ 5 (.int .i64 (R 4))).set_ 6 (.int .i64 (R 5))).set_ 7 (.int .i64 (R 6))).set_ 8 (.int .i64 (R 7))
  refine bodyPost_ret (v := .tuple #[.agg (stV p (R)), .bool false]) (results_cell2b Tryz.results45 rfl rfl (load39 (p := p) (R := R) (by simpa [stV] using BFF))) rfl ⟨rfl, ?_⟩
  exact (((((((((((O3.out.mono (T := [X + 1 + 1]) (by simp))).setCell (p := ⟨X + 1 + 1, 0, none⟩) (.inl (by simp)) _).setCell (p := ⟨X + 1 + 1, 1, none⟩) (.inl (by simp)) _).setCell (p := ⟨X + 1 + 1, 2, none⟩) (.inl (by simp)) _).setCell (p := ⟨X + 1 + 1, 3, none⟩) (.inl (by simp)) _).setCell (p := ⟨X + 1 + 1, 4, none⟩) (.inl (by simp)) _).setCell (p := ⟨X + 1 + 1, 5, none⟩) (.inl (by simp)) _).setCell (p := ⟨X + 1 + 1, 6, none⟩) (.inl (by simp)) _).setCell (p := ⟨X + 1 + 1, 7, none⟩) (.inl (by simp)) _).setCell (p := ⟨X + 1 + 1, 8, none⟩) (.inl (by simp)) _).mono (fun x hx => .inr (by have := HX.out; simp at hx; omega))
set_option maxHeartbeats 8000000 in
theorem step4_badb (d : Nat) (hd : d < 8) (a : Nat) (ha : a < 8) (b : Int) (hb : b < 0 ∨ 7 < b) (imm p : Int) (R : Nat → Int) (w : World) : Calls Tryz.prog 45 #[.agg #[.int .i64 (4), .int .i64 ((d : Nat) : Int), .int .i64 ((a : Nat) : Int), .int .i64 b, .int .i64 imm], .agg (stV p R)] w fun e w' => e = .returned (stepV ⟨4, ((d : Nat) : Int), ((a : Nat) : Int), b, imm⟩ p R) ∧ Only [] w w' := by
  have PGF := hide (show stepV ⟨4, ((d : Nat) : Int), ((a : Nat) : Int), b, imm⟩ p R = .tuple #[.agg (stV p R), .bool false] from by
    have h1 : stepOk ⟨4, ((d : Nat) : Int), ((a : Nat) : Int), b, imm⟩ = false := by
      rw [Bool.eq_false_iff]
      unfold stepOk inReg
      simp [shp]
      omega
    unfold stepV
    rw [h1]
    rfl)
  obtain ⟨X, hX⟩ : ∃ X, w.heap.size = X := ⟨_, rfl⟩
  obtain ⟨W, hW⟩ : ∃ W, ((w.alloc (.cells #[.int .i64 (4), .int .i64 ((d : Nat) : Int), .int .i64 ((a : Nat) : Int), .int .i64 b, .int .i64 imm] 25)).alloc (.cells (stV p R) 98)).alloc (.cells #[.int .i64 0, .int .i64 0, .int .i64 0, .int .i64 0, .int .i64 0, .int .i64 0, .int .i64 0, .int .i64 0, .int .i64 0] 98) = W := ⟨_, rfl⟩
  have oW : Only [] w W := by rw [← hW]; exact (((Only.refl [] w).alloc _).alloc _).alloc _
  have bI : Blk W X 25 #[.int .i64 (4), .int .i64 ((d : Nat) : Int), .int .i64 ((a : Nat) : Int), .int .i64 b, .int .i64 imm] := by rw [← hW, ← hX]; exact ((Blk.new w 25 _).alloc _).alloc _
  have bZ : Blk W (X + 1) 98 (stV p R) := by
    have := (Blk.new (w.alloc (.cells #[.int .i64 (4), .int .i64 ((d : Nat) : Int), .int .i64 ((a : Nat) : Int), .int .i64 b, .int .i64 imm] 25)) 98 (stV p R)).alloc (.cells #[.int .i64 0, .int .i64 0, .int .i64 0, .int .i64 0, .int .i64 0, .int .i64 0, .int .i64 0, .int .i64 0, .int .i64 0] 98)
    rw [World.size_alloc, hX, hW] at this
    exact this
  have bX : Blk W (X + 1 + 1) 98 #[.int .i64 0, .int .i64 0, .int .i64 0, .int .i64 0, .int .i64 0, .int .i64 0, .int .i64 0, .int .i64 0, .int .i64 0] := by
    have := Blk.new ((w.alloc (.cells #[.int .i64 (4), .int .i64 ((d : Nat) : Int), .int .i64 ((a : Nat) : Int), .int .i64 b, .int .i64 imm] 25)).alloc (.cells (stV p R) 98)) 98 #[.int .i64 0, .int .i64 0, .int .i64 0, .int .i64 0, .int .i64 0, .int .i64 0, .int .i64 0, .int .i64 0, .int .i64 0]
    rw [World.size_alloc, World.size_alloc, hX, hW] at this
    exact this
  have CI := hide (fun V (ov : Only [] W V) => show V.cell? ⟨X, 0, none⟩ = some (.int .i64 (4)) from (bI.only ov (by simp)).cell 0)
  have DA := hide (fun V => does_any V)
  have HX := hide hX
  have HWX := hide (show X + 3 ≤ W.heap.size by have := bX.lt; omega)
  have OW := hide oW
  have BI := hide bI
  have BZ := hide bZ
  have BX := hide bX
  have LK := hide (fun (V : World) (mb nn : Nat) (h : Mp Tryz.prog 23 V mb (dF 6) nn) => show (Instr.lookup 132 (.map (some mb)) (.int .i64 4) true).run Tryz.prog V = .ok (.tuple #[.func (.func 102) #[] #[], .bool true]) V from by
    obtain ⟨l, hl⟩ := key22 4 (by decide)
    exact (h.look keyed22 Tryz.underlying132 hl (dF_some 6 4 (by omega) (by omega))).2)
  obtain ⟨nm, hnm⟩ : ∃ nm, ByteArray.mk (nmB 4).toArray = nm := ⟨_, rfl⟩
  have OF := hide (fun W => show Calls Tryz.prog 37 #[.int .i64 4] W fun e w' => e = .returned (.tuple #[.agg #[.string nm, .bool true, .bool true, .bool true, .int .i64 0], .bool true]) ∧ Only [] W w' from by rw [← hnm]; exact of_ok 4 (by decide) W)
  have INd := hide (fun W => show Calls Tryz.prog 82 #[.int .i64 ((d : Nat) : Int)] W fun e w' => e = .returned (.bool true) ∧ w' = W from (inOk_any ((d : Nat) : Int) W).mono fun e w' ⟨h1, h2⟩ => ⟨by rw [h1, decide_eq_true (show (0 : Int) ≤ d by omega), decide_eq_true (show (d : Int) ≤ 7 by omega)]; rfl, h2⟩)
  have INa := hide (fun W => show Calls Tryz.prog 82 #[.int .i64 ((a : Nat) : Int)] W fun e w' => e = .returned (.bool true) ∧ w' = W from (inOk_any ((a : Nat) : Int) W).mono fun e w' ⟨h1, h2⟩ => ⟨by rw [h1, decide_eq_true (show (0 : Int) ≤ a by omega), decide_eq_true (show (a : Int) ≤ 7 by omega)]; rfl, h2⟩)
  have INb := hide (fun W => show Calls Tryz.prog 82 #[.int .i64 b] W fun e w' => e = .returned (.bool false) ∧ w' = W from (inOk_any b W).mono fun e w' ⟨h1, h2⟩ => ⟨by rw [h1]; rcases hb with h | h; (rw [decide_eq_false (show ¬ 0 ≤ b by omega)]; rfl); (rw [decide_eq_false (show ¬ b ≤ 7 by omega), Bool.and_false]), h2⟩)
  skip
  unfold stV at hW
  have HW := hide hW
  clear oW bI bZ bX hX hW
  have hst : stV p R = #[.int .i64 p, .int .i64 (R 0), .int .i64 (R 1), .int .i64 (R 2), .int .i64 (R 3), .int .i64 (R 4), .int .i64 (R 5), .int .i64 (R 6), .int .i64 (R 7)] := rfl
  rw [hst]
  clear hst
  go_enter Tryz.func45, Tryz.ntmps45
  go_wp2_with fail
  rw [HX.out, HW.out]
  refine wp_region_held_drew (S := (fun V => Only [] W V)) (by kernel_rfl) ((Only.refl _ W).drew) (fun hHeld => ?_)
  revert hHeld
  generalize W.drew = u0
  intro hHeld
  obtain ⟨mb, hmb⟩ : ∃ mb, u0.heap.size = mb := ⟨_, rfl⟩
  refine wpAnyH_take (i := 1) (oi := ⟨some 13, _, _, _, _, _⟩) (v := ?vs13_1) rfl (by kernel_rfl) (by kernel_rfl) (by kernel_rfl) (fun _ _ _ h => h) (Or.inl ⟨by rfl, ?hys13_1⟩) (by assumption) ?rests13_1
  case hys13_1 => (intro V hSw; (try dsimp only at hSw); go_simp; first | done | (with_reducible rfl))
  try simp only [Act.put, List.setIfInBounds_toArray, List.set_cons_zero, List.set_cons_succ]
  refine wpAnyH_take (i := 2) (oi := ⟨some 14, _, _, _, _, _⟩) (v := ?vs13_2) rfl (by kernel_rfl) (by kernel_rfl) (by kernel_rfl) (fun _ _ _ h => h) (Or.inl ⟨by rfl, ?hys13_2⟩) (by assumption) ?rests13_2
  case hys13_2 => (intro V hSw; (try dsimp only at hSw); have z := CI.out V hSw; go_simp; first | done | (with_reducible rfl))
  try simp only [Act.put, List.setIfInBounds_toArray, List.set_cons_zero, List.set_cons_succ]
  refine wpAnyH_ready (rs := [0]) (by kernel_rfl) (by simp) ?_
  refine AllReadyH.cons (o := ⟨some 12, _, _, _, _, _⟩) rfl (fun K hK => ?_) (AllReadyH.nil)
  rw [if_pos (by rfl)]
  go_simp
  (with_reducible refine (DA.out _).mono ?_); rintro e u1 ⟨rfl, ⟨nn, MP⟩, o'⟩; rw [hmb] at MP ⊢; have MP := hide MP; have OS := hide ((show Only [] W u0 from hHeld).trans0 o')
  try dsimp only
  refine hK.out _ _ (OS.out) (fun hHeld => ?_)
  clear hK K
  try simp only [Act.put, List.setIfInBounds_toArray, List.set_cons_zero, List.set_cons_succ]
  refine wpAnyH_ready (rs := [3]) (by kernel_rfl) (by simp) ?_
  refine AllReadyH.cons (o := ⟨some 15, _, _, _, _, _⟩) rfl (fun K hK => ?_) (AllReadyH.nil)
  rw [if_pos (by rfl)]
  have z := LK.out _ _ _ MP.out
  go_simp
  try dsimp only
  refine hK.out _ _ ((show Only [] W u1 from hHeld)) (fun hHeld => ?_)
  clear hK K
  try simp only [Act.put, List.setIfInBounds_toArray, List.set_cons_zero, List.set_cons_succ]
  refine wpAnyH_take (i := 4) (oi := ⟨some 11, _, _, _, _, _⟩) (v := ?vs13_3) rfl (by kernel_rfl) (by kernel_rfl) (by kernel_rfl) (fun _ _ _ h => h) (Or.inl ⟨by rfl, ?hys13_3⟩) (by assumption) ?rests13_3
  case hys13_3 => (intro V hSw; (try dsimp only at hSw); go_simp; first | done | (with_reducible rfl))
  try simp only [Act.put, List.setIfInBounds_toArray, List.set_cons_zero, List.set_cons_succ]
  refine wpAnyH_take (i := 5) (oi := ⟨some 16, _, _, _, _, _⟩) (v := ?vs13_4) rfl (by kernel_rfl) (by kernel_rfl) (by kernel_rfl) (fun _ _ _ h => h) (Or.inl ⟨by rfl, ?hys13_4⟩) (by assumption) ?rests13_4
  case hys13_4 => (intro V hSw; (try dsimp only at hSw); go_simp; first | done | (with_reducible rfl))
  try simp only [Act.put, List.setIfInBounds_toArray, List.set_cons_zero, List.set_cons_succ]
  refine wpAnyH_take (i := 6) (oi := ⟨some 17, _, _, _, _, _⟩) (v := ?vs13_5) rfl (by kernel_rfl) (by kernel_rfl) (by kernel_rfl) (fun _ _ _ h => h) (Or.inl ⟨by rfl, ?hys13_5⟩) (by assumption) ?rests13_5
  case hys13_5 => (intro V hSw; (try dsimp only at hSw); go_simp; first | done | (with_reducible rfl))
  try simp only [Act.put, List.setIfInBounds_toArray, List.set_cons_zero, List.set_cons_succ]
  refine wpAnyH_take (i := 7) (oi := ⟨some 6, _, _, _, _, _⟩) (v := ?vs13_6) rfl (by kernel_rfl) (by kernel_rfl) (by kernel_rfl) (fun _ _ _ h => h) (Or.inl ⟨by rfl, ?hys13_6⟩) (by assumption) ?rests13_6
  case hys13_6 => (intro V hSw; (try dsimp only at hSw); go_simp; first | done | (with_reducible rfl))
  try simp only [Act.put, List.setIfInBounds_toArray, List.set_cons_zero, List.set_cons_succ]
  refine wpAnyH_take (i := 8) (oi := ⟨some 7, _, _, _, _, _⟩) (v := ?vs13_7) rfl (by kernel_rfl) (by kernel_rfl) (by kernel_rfl) (fun _ _ _ h => h) (Or.inl ⟨by rfl, ?hys13_7⟩) (by assumption) ?rests13_7
  case hys13_7 => (intro V hSw; (try dsimp only at hSw); go_simp; first | done | (with_reducible rfl))
  try simp only [Act.put, List.setIfInBounds_toArray, List.set_cons_zero, List.set_cons_succ]
  refine wpAnyH_done (by kernel_rfl) ?_ _
  have OS := hide (show Only [] W u1 from hHeld)
  have t0 := (BI.out.only OS.out (by simp)).cell 0
  clear hHeld hmb MP LK DA CI
  go_wp2_with (first
    | (go_at_call 37; (with_reducible refine (OF.out _).mono ?_); rintro e u2 ⟨rfl, o2⟩; have oo := (OS.out.trans0 o2).alloc (.cells #[.string nm, .bool true, .bool true, .bool true, .int .i64 0] 83); have B3I := BI.out.only oo (by simp); have B3Z := hide (BZ.out.only oo (by simp)); have B3X := hide (BX.out.only oo (by simp)); have O3 := hide (OW.out.trans0 oo); have B3O := Blk.new u2 83 #[.string nm, .bool true, .bool true, .bool true, .int .i64 0]; have i0 := B3I.cell 0; have i1 := B3I.cell 1; have i2 := B3I.cell 2; have i3 := B3I.cell 3; have i4 := B3I.cell 4; have q1 := B3O.cell 1; have q2 := B3O.cell 2; have q3 := B3O.cell 3; have z0 : (u2.alloc (.cells #[.string nm, .bool true, .bool true, .bool true, .int .i64 0] 83)).cell? ⟨X + 1, 0, none⟩ = some (.int .i64 p) := B3Z.out.cell 0; have z1 : (u2.alloc (.cells #[.string nm, .bool true, .bool true, .bool true, .int .i64 0] 83)).cell? ⟨X + 1, 1, none⟩ = some (.int .i64 (R 0)) := B3Z.out.cell 1; have z2 : (u2.alloc (.cells #[.string nm, .bool true, .bool true, .bool true, .int .i64 0] 83)).cell? ⟨X + 1, 2, none⟩ = some (.int .i64 (R 1)) := B3Z.out.cell 2; have z3 : (u2.alloc (.cells #[.string nm, .bool true, .bool true, .bool true, .int .i64 0] 83)).cell? ⟨X + 1, 3, none⟩ = some (.int .i64 (R 2)) := B3Z.out.cell 3; have z4 : (u2.alloc (.cells #[.string nm, .bool true, .bool true, .bool true, .int .i64 0] 83)).cell? ⟨X + 1, 4, none⟩ = some (.int .i64 (R 3)) := B3Z.out.cell 4; have z5 : (u2.alloc (.cells #[.string nm, .bool true, .bool true, .bool true, .int .i64 0] 83)).cell? ⟨X + 1, 5, none⟩ = some (.int .i64 (R 4)) := B3Z.out.cell 5; have z6 : (u2.alloc (.cells #[.string nm, .bool true, .bool true, .bool true, .int .i64 0] 83)).cell? ⟨X + 1, 6, none⟩ = some (.int .i64 (R 5)) := B3Z.out.cell 6; have z7 : (u2.alloc (.cells #[.string nm, .bool true, .bool true, .bool true, .int .i64 0] 83)).cell? ⟨X + 1, 7, none⟩ = some (.int .i64 (R 6)) := B3Z.out.cell 7; have z8 : (u2.alloc (.cells #[.string nm, .bool true, .bool true, .bool true, .int .i64 0] 83)).cell? ⟨X + 1, 8, none⟩ = some (.int .i64 (R 7)) := B3Z.out.cell 8; have x0 : (u2.alloc (.cells #[.string nm, .bool true, .bool true, .bool true, .int .i64 0] 83)).cell? ⟨X + 1 + 1, 0, none⟩ = some (.int .i64 0) := B3X.out.cell 0; have y0 := B3X.out.frozen 0; have x1 : (u2.alloc (.cells #[.string nm, .bool true, .bool true, .bool true, .int .i64 0] 83)).cell? ⟨X + 1 + 1, 1, none⟩ = some (.int .i64 0) := B3X.out.cell 1; have y1 := B3X.out.frozen 1; have x2 : (u2.alloc (.cells #[.string nm, .bool true, .bool true, .bool true, .int .i64 0] 83)).cell? ⟨X + 1 + 1, 2, none⟩ = some (.int .i64 0) := B3X.out.cell 2; have y2 := B3X.out.frozen 2; have x3 : (u2.alloc (.cells #[.string nm, .bool true, .bool true, .bool true, .int .i64 0] 83)).cell? ⟨X + 1 + 1, 3, none⟩ = some (.int .i64 0) := B3X.out.cell 3; have y3 := B3X.out.frozen 3; have x4 : (u2.alloc (.cells #[.string nm, .bool true, .bool true, .bool true, .int .i64 0] 83)).cell? ⟨X + 1 + 1, 4, none⟩ = some (.int .i64 0) := B3X.out.cell 4; have y4 := B3X.out.frozen 4; have x5 : (u2.alloc (.cells #[.string nm, .bool true, .bool true, .bool true, .int .i64 0] 83)).cell? ⟨X + 1 + 1, 5, none⟩ = some (.int .i64 0) := B3X.out.cell 5; have y5 := B3X.out.frozen 5; have x6 : (u2.alloc (.cells #[.string nm, .bool true, .bool true, .bool true, .int .i64 0] 83)).cell? ⟨X + 1 + 1, 6, none⟩ = some (.int .i64 0) := B3X.out.cell 6; have y6 := B3X.out.frozen 6; have x7 : (u2.alloc (.cells #[.string nm, .bool true, .bool true, .bool true, .int .i64 0] 83)).cell? ⟨X + 1 + 1, 7, none⟩ = some (.int .i64 0) := B3X.out.cell 7; have y7 := B3X.out.frozen 7; have x8 : (u2.alloc (.cells #[.string nm, .bool true, .bool true, .bool true, .int .i64 0] 83)).cell? ⟨X + 1 + 1, 8, none⟩ = some (.int .i64 0) := B3X.out.cell 8; have y8 := B3X.out.frozen 8; clear oo o2 B3I B3O)
    | (go_at_call 82; (with_reducible refine (INd.out _).mono ?_); rintro e w' ⟨rfl, hw⟩; obtain rfl := hw.symm; clear hw)
    | (go_at_call 82; (with_reducible refine (INa.out _).mono ?_); rintro e w' ⟨rfl, hw⟩; obtain rfl := hw.symm; clear hw)
    | (go_at_call 82; (with_reducible refine (INb.out _).mono ?_); rintro e w' ⟨rfl, hw⟩; obtain rfl := hw.symm; clear hw))
  rw [PGF.out]
  have BFF := (((((((((B3X.out).set_ 0 (.int .i64 p)).set_ 1 (.int .i64 (R 0))).set_ 2 (.int .i64 (R 1))).set_ 3 (.int .i64 (R 2))).set_ 4 (.int .i64 (R 3))).set_ 5 (.int .i64 (R 4))).set_ 6 (.int .i64 (R 5))).set_ 7 (.int .i64 (R 6))).set_ 8 (.int .i64 (R 7))
  refine bodyPost_ret (v := .tuple #[.agg (stV p (R)), .bool false]) (results_cell2b Tryz.results45 rfl rfl (load39 (p := p) (R := R) (by simpa [stV] using BFF))) rfl ⟨rfl, ?_⟩
  exact (((((((((((O3.out.mono (T := [X + 1 + 1]) (by simp))).setCell (p := ⟨X + 1 + 1, 0, none⟩) (.inl (by simp)) _).setCell (p := ⟨X + 1 + 1, 1, none⟩) (.inl (by simp)) _).setCell (p := ⟨X + 1 + 1, 2, none⟩) (.inl (by simp)) _).setCell (p := ⟨X + 1 + 1, 3, none⟩) (.inl (by simp)) _).setCell (p := ⟨X + 1 + 1, 4, none⟩) (.inl (by simp)) _).setCell (p := ⟨X + 1 + 1, 5, none⟩) (.inl (by simp)) _).setCell (p := ⟨X + 1 + 1, 6, none⟩) (.inl (by simp)) _).setCell (p := ⟨X + 1 + 1, 7, none⟩) (.inl (by simp)) _).setCell (p := ⟨X + 1 + 1, 8, none⟩) (.inl (by simp)) _).mono (fun x hx => .inr (by have := HX.out; simp at hx; omega))
set_option maxHeartbeats 8000000 in
theorem step4_ok (d : Nat) (hd : d < 8) (a : Nat) (ha : a < 8) (b : Nat) (hb : b < 8) (imm p : Int) (R : Nat → Int) (w : World) : Calls Tryz.prog 45 #[.agg #[.int .i64 (4), .int .i64 ((d : Nat) : Int), .int .i64 ((a : Nat) : Int), .int .i64 ((b : Nat) : Int), .int .i64 imm], .agg (stV p R)] w fun e w' => e = .returned (stepV ⟨4, ((d : Nat) : Int), ((a : Nat) : Int), ((b : Nat) : Int), imm⟩ p R) ∧ Only [] w w' := by
  have PGF := hide (show stepV ⟨4, ((d : Nat) : Int), ((a : Nat) : Int), ((b : Nat) : Int), imm⟩ p R = .tuple #[.agg (stV (IntKind.i64.wrap (p + 1)) (upR R d (IntKind.i64.wrap (R a - R b)))), .bool true] from by
    have h1 : stepOk ⟨4, ((d : Nat) : Int), ((a : Nat) : Int), ((b : Nat) : Int), imm⟩ = true := by unfold stepOk inReg; simp [shp] <;> omega
    have h2 : stepPC ⟨4, ((d : Nat) : Int), ((a : Nat) : Int), ((b : Nat) : Int), imm⟩ p R = (IntKind.i64.wrap (p + 1)) := by unfold stepPC; simp
    have h3 : stepR ⟨4, ((d : Nat) : Int), ((a : Nat) : Int), ((b : Nat) : Int), imm⟩ R = (upR R d (IntKind.i64.wrap (R a - R b))) := by unfold stepR; simp
    unfold stepV
    rw [h1, h2, h3]
    rfl)
  obtain ⟨X, hX⟩ : ∃ X, w.heap.size = X := ⟨_, rfl⟩
  obtain ⟨W, hW⟩ : ∃ W, ((w.alloc (.cells #[.int .i64 (4), .int .i64 ((d : Nat) : Int), .int .i64 ((a : Nat) : Int), .int .i64 ((b : Nat) : Int), .int .i64 imm] 25)).alloc (.cells (stV p R) 98)).alloc (.cells #[.int .i64 0, .int .i64 0, .int .i64 0, .int .i64 0, .int .i64 0, .int .i64 0, .int .i64 0, .int .i64 0, .int .i64 0] 98) = W := ⟨_, rfl⟩
  have oW : Only [] w W := by rw [← hW]; exact (((Only.refl [] w).alloc _).alloc _).alloc _
  have bI : Blk W X 25 #[.int .i64 (4), .int .i64 ((d : Nat) : Int), .int .i64 ((a : Nat) : Int), .int .i64 ((b : Nat) : Int), .int .i64 imm] := by rw [← hW, ← hX]; exact ((Blk.new w 25 _).alloc _).alloc _
  have bZ : Blk W (X + 1) 98 (stV p R) := by
    have := (Blk.new (w.alloc (.cells #[.int .i64 (4), .int .i64 ((d : Nat) : Int), .int .i64 ((a : Nat) : Int), .int .i64 ((b : Nat) : Int), .int .i64 imm] 25)) 98 (stV p R)).alloc (.cells #[.int .i64 0, .int .i64 0, .int .i64 0, .int .i64 0, .int .i64 0, .int .i64 0, .int .i64 0, .int .i64 0, .int .i64 0] 98)
    rw [World.size_alloc, hX, hW] at this
    exact this
  have bX : Blk W (X + 1 + 1) 98 #[.int .i64 0, .int .i64 0, .int .i64 0, .int .i64 0, .int .i64 0, .int .i64 0, .int .i64 0, .int .i64 0, .int .i64 0] := by
    have := Blk.new ((w.alloc (.cells #[.int .i64 (4), .int .i64 ((d : Nat) : Int), .int .i64 ((a : Nat) : Int), .int .i64 ((b : Nat) : Int), .int .i64 imm] 25)).alloc (.cells (stV p R) 98)) 98 #[.int .i64 0, .int .i64 0, .int .i64 0, .int .i64 0, .int .i64 0, .int .i64 0, .int .i64 0, .int .i64 0, .int .i64 0]
    rw [World.size_alloc, World.size_alloc, hX, hW] at this
    exact this
  have CI := hide (fun V (ov : Only [] W V) => show V.cell? ⟨X, 0, none⟩ = some (.int .i64 (4)) from (bI.only ov (by simp)).cell 0)
  have DA := hide (fun V => does_any V)
  have HX := hide hX
  have HWX := hide (show X + 3 ≤ W.heap.size by have := bX.lt; omega)
  have OW := hide oW
  have BI := hide bI
  have BZ := hide bZ
  have BX := hide bX
  have LK := hide (fun (V : World) (mb nn : Nat) (h : Mp Tryz.prog 23 V mb (dF 6) nn) => show (Instr.lookup 132 (.map (some mb)) (.int .i64 4) true).run Tryz.prog V = .ok (.tuple #[.func (.func 102) #[] #[], .bool true]) V from by
    obtain ⟨l, hl⟩ := key22 4 (by decide)
    exact (h.look keyed22 Tryz.underlying132 hl (dF_some 6 4 (by omega) (by omega))).2)
  obtain ⟨nm, hnm⟩ : ∃ nm, ByteArray.mk (nmB 4).toArray = nm := ⟨_, rfl⟩
  have OF := hide (fun W => show Calls Tryz.prog 37 #[.int .i64 4] W fun e w' => e = .returned (.tuple #[.agg #[.string nm, .bool true, .bool true, .bool true, .int .i64 0], .bool true]) ∧ Only [] W w' from by rw [← hnm]; exact of_ok 4 (by decide) W)
  have INd := hide (fun W => show Calls Tryz.prog 82 #[.int .i64 ((d : Nat) : Int)] W fun e w' => e = .returned (.bool true) ∧ w' = W from (inOk_any ((d : Nat) : Int) W).mono fun e w' ⟨h1, h2⟩ => ⟨by rw [h1, decide_eq_true (show (0 : Int) ≤ d by omega), decide_eq_true (show (d : Int) ≤ 7 by omega)]; rfl, h2⟩)
  have INa := hide (fun W => show Calls Tryz.prog 82 #[.int .i64 ((a : Nat) : Int)] W fun e w' => e = .returned (.bool true) ∧ w' = W from (inOk_any ((a : Nat) : Int) W).mono fun e w' ⟨h1, h2⟩ => ⟨by rw [h1, decide_eq_true (show (0 : Int) ≤ a by omega), decide_eq_true (show (a : Int) ≤ 7 by omega)]; rfl, h2⟩)
  have INb := hide (fun W => show Calls Tryz.prog 82 #[.int .i64 ((b : Nat) : Int)] W fun e w' => e = .returned (.bool true) ∧ w' = W from (inOk_any ((b : Nat) : Int) W).mono fun e w' ⟨h1, h2⟩ => ⟨by rw [h1, decide_eq_true (show (0 : Int) ≤ b by omega), decide_eq_true (show (b : Int) ≤ 7 by omega)]; rfl, h2⟩)
  have e1 : ∃ pw, IntKind.i64.wrap (p + 1) = pw := ⟨_, rfl⟩
  obtain ⟨pw, hpw⟩ := e1
  have PGF := PGF.out
  rw [hpw] at PGF
  obtain ⟨R2, hR2⟩ : ∃ R2, (upR R d (IntKind.i64.wrap (R a - R b))) = R2 := ⟨_, rfl⟩
  obtain ⟨p2, hp2⟩ : ∃ p2, pw = p2 := ⟨_, rfl⟩
  rw [hR2, hp2] at PGF
  have HR2 := hide hR2
  clear hR2
  have HP2 := hide hp2
  clear hp2
  have PGF := hide PGF
  unfold stV at hW
  have HW := hide hW
  clear oW bI bZ bX hX hW
  have hst : stV p R = #[.int .i64 p, .int .i64 (R 0), .int .i64 (R 1), .int .i64 (R 2), .int .i64 (R 3), .int .i64 (R 4), .int .i64 (R 5), .int .i64 (R 6), .int .i64 (R 7)] := rfl
  rw [hst]
  clear hst
  go_enter Tryz.func45, Tryz.ntmps45
  go_wp2_with fail
  rw [HX.out, HW.out]
  refine wp_region_held_drew (S := (fun V => Only [] W V)) (by kernel_rfl) ((Only.refl _ W).drew) (fun hHeld => ?_)
  revert hHeld
  generalize W.drew = u0
  intro hHeld
  obtain ⟨mb, hmb⟩ : ∃ mb, u0.heap.size = mb := ⟨_, rfl⟩
  refine wpAnyH_take (i := 1) (oi := ⟨some 13, _, _, _, _, _⟩) (v := ?vs14_1) rfl (by kernel_rfl) (by kernel_rfl) (by kernel_rfl) (fun _ _ _ h => h) (Or.inl ⟨by rfl, ?hys14_1⟩) (by assumption) ?rests14_1
  case hys14_1 => (intro V hSw; (try dsimp only at hSw); go_simp; first | done | (with_reducible rfl))
  try simp only [Act.put, List.setIfInBounds_toArray, List.set_cons_zero, List.set_cons_succ]
  refine wpAnyH_take (i := 2) (oi := ⟨some 14, _, _, _, _, _⟩) (v := ?vs14_2) rfl (by kernel_rfl) (by kernel_rfl) (by kernel_rfl) (fun _ _ _ h => h) (Or.inl ⟨by rfl, ?hys14_2⟩) (by assumption) ?rests14_2
  case hys14_2 => (intro V hSw; (try dsimp only at hSw); have z := CI.out V hSw; go_simp; first | done | (with_reducible rfl))
  try simp only [Act.put, List.setIfInBounds_toArray, List.set_cons_zero, List.set_cons_succ]
  refine wpAnyH_ready (rs := [0]) (by kernel_rfl) (by simp) ?_
  refine AllReadyH.cons (o := ⟨some 12, _, _, _, _, _⟩) rfl (fun K hK => ?_) (AllReadyH.nil)
  rw [if_pos (by rfl)]
  go_simp
  (with_reducible refine (DA.out _).mono ?_); rintro e u1 ⟨rfl, ⟨nn, MP⟩, o'⟩; rw [hmb] at MP ⊢; have MP := hide MP; have OS := hide ((show Only [] W u0 from hHeld).trans0 o')
  try dsimp only
  refine hK.out _ _ (OS.out) (fun hHeld => ?_)
  clear hK K
  try simp only [Act.put, List.setIfInBounds_toArray, List.set_cons_zero, List.set_cons_succ]
  refine wpAnyH_ready (rs := [3]) (by kernel_rfl) (by simp) ?_
  refine AllReadyH.cons (o := ⟨some 15, _, _, _, _, _⟩) rfl (fun K hK => ?_) (AllReadyH.nil)
  rw [if_pos (by rfl)]
  have z := LK.out _ _ _ MP.out
  go_simp
  try dsimp only
  refine hK.out _ _ ((show Only [] W u1 from hHeld)) (fun hHeld => ?_)
  clear hK K
  try simp only [Act.put, List.setIfInBounds_toArray, List.set_cons_zero, List.set_cons_succ]
  refine wpAnyH_take (i := 4) (oi := ⟨some 11, _, _, _, _, _⟩) (v := ?vs14_3) rfl (by kernel_rfl) (by kernel_rfl) (by kernel_rfl) (fun _ _ _ h => h) (Or.inl ⟨by rfl, ?hys14_3⟩) (by assumption) ?rests14_3
  case hys14_3 => (intro V hSw; (try dsimp only at hSw); go_simp; first | done | (with_reducible rfl))
  try simp only [Act.put, List.setIfInBounds_toArray, List.set_cons_zero, List.set_cons_succ]
  refine wpAnyH_take (i := 5) (oi := ⟨some 16, _, _, _, _, _⟩) (v := ?vs14_4) rfl (by kernel_rfl) (by kernel_rfl) (by kernel_rfl) (fun _ _ _ h => h) (Or.inl ⟨by rfl, ?hys14_4⟩) (by assumption) ?rests14_4
  case hys14_4 => (intro V hSw; (try dsimp only at hSw); go_simp; first | done | (with_reducible rfl))
  try simp only [Act.put, List.setIfInBounds_toArray, List.set_cons_zero, List.set_cons_succ]
  refine wpAnyH_take (i := 6) (oi := ⟨some 17, _, _, _, _, _⟩) (v := ?vs14_5) rfl (by kernel_rfl) (by kernel_rfl) (by kernel_rfl) (fun _ _ _ h => h) (Or.inl ⟨by rfl, ?hys14_5⟩) (by assumption) ?rests14_5
  case hys14_5 => (intro V hSw; (try dsimp only at hSw); go_simp; first | done | (with_reducible rfl))
  try simp only [Act.put, List.setIfInBounds_toArray, List.set_cons_zero, List.set_cons_succ]
  refine wpAnyH_take (i := 7) (oi := ⟨some 6, _, _, _, _, _⟩) (v := ?vs14_6) rfl (by kernel_rfl) (by kernel_rfl) (by kernel_rfl) (fun _ _ _ h => h) (Or.inl ⟨by rfl, ?hys14_6⟩) (by assumption) ?rests14_6
  case hys14_6 => (intro V hSw; (try dsimp only at hSw); go_simp; first | done | (with_reducible rfl))
  try simp only [Act.put, List.setIfInBounds_toArray, List.set_cons_zero, List.set_cons_succ]
  refine wpAnyH_take (i := 8) (oi := ⟨some 7, _, _, _, _, _⟩) (v := ?vs14_7) rfl (by kernel_rfl) (by kernel_rfl) (by kernel_rfl) (fun _ _ _ h => h) (Or.inl ⟨by rfl, ?hys14_7⟩) (by assumption) ?rests14_7
  case hys14_7 => (intro V hSw; (try dsimp only at hSw); go_simp; first | done | (with_reducible rfl))
  try simp only [Act.put, List.setIfInBounds_toArray, List.set_cons_zero, List.set_cons_succ]
  refine wpAnyH_done (by kernel_rfl) ?_ _
  have OS := hide (show Only [] W u1 from hHeld)
  have t0 := (BI.out.only OS.out (by simp)).cell 0
  clear hHeld hmb MP LK DA CI
  go_wp2_with (first
    | (go_at_call 37; (with_reducible refine (OF.out _).mono ?_); rintro e u2 ⟨rfl, o2⟩; have oo := (OS.out.trans0 o2).alloc (.cells #[.string nm, .bool true, .bool true, .bool true, .int .i64 0] 83); have B3I := BI.out.only oo (by simp); have B3Z := hide (BZ.out.only oo (by simp)); have B3X := hide (BX.out.only oo (by simp)); have O3 := hide (OW.out.trans0 oo); have B3O := Blk.new u2 83 #[.string nm, .bool true, .bool true, .bool true, .int .i64 0]; have i0 := B3I.cell 0; have i1 := B3I.cell 1; have i2 := B3I.cell 2; have i3 := B3I.cell 3; have i4 := B3I.cell 4; have q1 := B3O.cell 1; have q2 := B3O.cell 2; have q3 := B3O.cell 3; have z0 : (u2.alloc (.cells #[.string nm, .bool true, .bool true, .bool true, .int .i64 0] 83)).cell? ⟨X + 1, 0, none⟩ = some (.int .i64 p) := B3Z.out.cell 0; have z1 : (u2.alloc (.cells #[.string nm, .bool true, .bool true, .bool true, .int .i64 0] 83)).cell? ⟨X + 1, 1, none⟩ = some (.int .i64 (R 0)) := B3Z.out.cell 1; have z2 : (u2.alloc (.cells #[.string nm, .bool true, .bool true, .bool true, .int .i64 0] 83)).cell? ⟨X + 1, 2, none⟩ = some (.int .i64 (R 1)) := B3Z.out.cell 2; have z3 : (u2.alloc (.cells #[.string nm, .bool true, .bool true, .bool true, .int .i64 0] 83)).cell? ⟨X + 1, 3, none⟩ = some (.int .i64 (R 2)) := B3Z.out.cell 3; have z4 : (u2.alloc (.cells #[.string nm, .bool true, .bool true, .bool true, .int .i64 0] 83)).cell? ⟨X + 1, 4, none⟩ = some (.int .i64 (R 3)) := B3Z.out.cell 4; have z5 : (u2.alloc (.cells #[.string nm, .bool true, .bool true, .bool true, .int .i64 0] 83)).cell? ⟨X + 1, 5, none⟩ = some (.int .i64 (R 4)) := B3Z.out.cell 5; have z6 : (u2.alloc (.cells #[.string nm, .bool true, .bool true, .bool true, .int .i64 0] 83)).cell? ⟨X + 1, 6, none⟩ = some (.int .i64 (R 5)) := B3Z.out.cell 6; have z7 : (u2.alloc (.cells #[.string nm, .bool true, .bool true, .bool true, .int .i64 0] 83)).cell? ⟨X + 1, 7, none⟩ = some (.int .i64 (R 6)) := B3Z.out.cell 7; have z8 : (u2.alloc (.cells #[.string nm, .bool true, .bool true, .bool true, .int .i64 0] 83)).cell? ⟨X + 1, 8, none⟩ = some (.int .i64 (R 7)) := B3Z.out.cell 8; have fz0 := B3Z.out.frozen 0; clear oo o2 B3I B3O)
    | (go_at_call 82; (with_reducible refine (INd.out _).mono ?_); rintro e w' ⟨rfl, hw⟩; obtain rfl := hw.symm; clear hw)
    | (go_at_call 82; (with_reducible refine (INa.out _).mono ?_); rintro e w' ⟨rfl, hw⟩; obtain rfl := hw.symm; clear hw)
    | (go_at_call 82; (with_reducible refine (INb.out _).mono ?_); rintro e w' ⟨rfl, hw⟩; obtain rfl := hw.symm; clear hw)
    | (go_at_call 102; clear z0 z1 z2 z3 z4 z5 z6 z7 z8 fz0; refine (does4 4 imm pw R d a b hd ha hb (X + 1) _ (by have := B3Z.out.set_ 0 (.int .i64 pw); rw [stV_pc] at this; exact this)).mono ?_; rintro e u4 ⟨rfl, bz, oz⟩; have bz := bz; rw [HR2.out, HP2.out] at bz; have OZ := hide oz; have BZ4 := hide bz; have B4X := hide ((B3X.out.far (p := ⟨X + 1, 0, none⟩) (by simp) (.int .i64 pw)).only oz (by simp)); have O4 := hide ((O3.out.mono (T := [X + 1]) (by simp)).setCell (p := ⟨X + 1, 0, none⟩) (.inl (by simp)) (.int .i64 pw)); have z0 : u4.cell? ⟨X + 1, 0, none⟩ = some (.int .i64 p2) := BZ4.out.cell 0; have z1 : u4.cell? ⟨X + 1, 1, none⟩ = some (.int .i64 (R2 0)) := BZ4.out.cell 1; have z2 : u4.cell? ⟨X + 1, 2, none⟩ = some (.int .i64 (R2 1)) := BZ4.out.cell 2; have z3 : u4.cell? ⟨X + 1, 3, none⟩ = some (.int .i64 (R2 2)) := BZ4.out.cell 3; have z4 : u4.cell? ⟨X + 1, 4, none⟩ = some (.int .i64 (R2 3)) := BZ4.out.cell 4; have z5 : u4.cell? ⟨X + 1, 5, none⟩ = some (.int .i64 (R2 4)) := BZ4.out.cell 5; have z6 : u4.cell? ⟨X + 1, 6, none⟩ = some (.int .i64 (R2 5)) := BZ4.out.cell 6; have z7 : u4.cell? ⟨X + 1, 7, none⟩ = some (.int .i64 (R2 6)) := BZ4.out.cell 7; have z8 : u4.cell? ⟨X + 1, 8, none⟩ = some (.int .i64 (R2 7)) := BZ4.out.cell 8; have x0 : u4.cell? ⟨X + 1 + 1, 0, none⟩ = some (.int .i64 0) := B4X.out.cell 0; have y0 := B4X.out.frozen 0; have x1 : u4.cell? ⟨X + 1 + 1, 1, none⟩ = some (.int .i64 0) := B4X.out.cell 1; have y1 := B4X.out.frozen 1; have x2 : u4.cell? ⟨X + 1 + 1, 2, none⟩ = some (.int .i64 0) := B4X.out.cell 2; have y2 := B4X.out.frozen 2; have x3 : u4.cell? ⟨X + 1 + 1, 3, none⟩ = some (.int .i64 0) := B4X.out.cell 3; have y3 := B4X.out.frozen 3; have x4 : u4.cell? ⟨X + 1 + 1, 4, none⟩ = some (.int .i64 0) := B4X.out.cell 4; have y4 := B4X.out.frozen 4; have x5 : u4.cell? ⟨X + 1 + 1, 5, none⟩ = some (.int .i64 0) := B4X.out.cell 5; have y5 := B4X.out.frozen 5; have x6 : u4.cell? ⟨X + 1 + 1, 6, none⟩ = some (.int .i64 0) := B4X.out.cell 6; have y6 := B4X.out.frozen 6; have x7 : u4.cell? ⟨X + 1 + 1, 7, none⟩ = some (.int .i64 0) := B4X.out.cell 7; have y7 := B4X.out.frozen 7; have x8 : u4.cell? ⟨X + 1 + 1, 8, none⟩ = some (.int .i64 0) := B4X.out.cell 8; have y8 := B4X.out.frozen 8; clear bz oz))
  rw [PGF.out]
  have BFF := (((((((((B4X.out).set_ 0 (.int .i64 p2)).set_ 1 (.int .i64 (R2 0))).set_ 2 (.int .i64 (R2 1))).set_ 3 (.int .i64 (R2 2))).set_ 4 (.int .i64 (R2 3))).set_ 5 (.int .i64 (R2 4))).set_ 6 (.int .i64 (R2 5))).set_ 7 (.int .i64 (R2 6))).set_ 8 (.int .i64 (R2 7))
  refine bodyPost_ret (v := .tuple #[.agg (stV p2 (R2)), .bool true]) (results_cell2b Tryz.results45 rfl rfl (load39 (p := p2) (R := R2) (by simpa [stV] using BFF))) rfl ⟨rfl, ?_⟩
  exact (((((((((((((O4.out.trans' OZ.out).mono (T := [X + 1, X + 1 + 1]) (by simp)))).setCell (p := ⟨X + 1 + 1, 0, none⟩) (.inl (by simp)) _).setCell (p := ⟨X + 1 + 1, 1, none⟩) (.inl (by simp)) _).setCell (p := ⟨X + 1 + 1, 2, none⟩) (.inl (by simp)) _).setCell (p := ⟨X + 1 + 1, 3, none⟩) (.inl (by simp)) _).setCell (p := ⟨X + 1 + 1, 4, none⟩) (.inl (by simp)) _).setCell (p := ⟨X + 1 + 1, 5, none⟩) (.inl (by simp)) _).setCell (p := ⟨X + 1 + 1, 6, none⟩) (.inl (by simp)) _).setCell (p := ⟨X + 1 + 1, 7, none⟩) (.inl (by simp)) _).setCell (p := ⟨X + 1 + 1, 8, none⟩) (.inl (by simp)) _).mono (fun x hx => .inr (by have := HX.out; simp at hx; omega))
set_option maxHeartbeats 8000000 in
theorem step5_ok (d : Int) (a : Int) (b : Int) (imm p : Int) (R : Nat → Int) (w : World) : Calls Tryz.prog 45 #[.agg #[.int .i64 (5), .int .i64 d, .int .i64 a, .int .i64 b, .int .i64 imm], .agg (stV p R)] w fun e w' => e = .returned (stepV ⟨5, d, a, b, imm⟩ p R) ∧ Only [] w w' := by
  have PGF := hide (show stepV ⟨5, d, a, b, imm⟩ p R = .tuple #[.agg (stV imm R), .bool true] from by
    have h1 : stepOk ⟨5, d, a, b, imm⟩ = true := by unfold stepOk inReg; simp [shp]
    have h2 : stepPC ⟨5, d, a, b, imm⟩ p R = imm := by unfold stepPC; simp
    have h3 : stepR ⟨5, d, a, b, imm⟩ R = R := by unfold stepR; simp
    unfold stepV
    rw [h1, h2, h3]
    rfl)
  obtain ⟨X, hX⟩ : ∃ X, w.heap.size = X := ⟨_, rfl⟩
  obtain ⟨W, hW⟩ : ∃ W, ((w.alloc (.cells #[.int .i64 (5), .int .i64 d, .int .i64 a, .int .i64 b, .int .i64 imm] 25)).alloc (.cells (stV p R) 98)).alloc (.cells #[.int .i64 0, .int .i64 0, .int .i64 0, .int .i64 0, .int .i64 0, .int .i64 0, .int .i64 0, .int .i64 0, .int .i64 0] 98) = W := ⟨_, rfl⟩
  have oW : Only [] w W := by rw [← hW]; exact (((Only.refl [] w).alloc _).alloc _).alloc _
  have bI : Blk W X 25 #[.int .i64 (5), .int .i64 d, .int .i64 a, .int .i64 b, .int .i64 imm] := by rw [← hW, ← hX]; exact ((Blk.new w 25 _).alloc _).alloc _
  have bZ : Blk W (X + 1) 98 (stV p R) := by
    have := (Blk.new (w.alloc (.cells #[.int .i64 (5), .int .i64 d, .int .i64 a, .int .i64 b, .int .i64 imm] 25)) 98 (stV p R)).alloc (.cells #[.int .i64 0, .int .i64 0, .int .i64 0, .int .i64 0, .int .i64 0, .int .i64 0, .int .i64 0, .int .i64 0, .int .i64 0] 98)
    rw [World.size_alloc, hX, hW] at this
    exact this
  have bX : Blk W (X + 1 + 1) 98 #[.int .i64 0, .int .i64 0, .int .i64 0, .int .i64 0, .int .i64 0, .int .i64 0, .int .i64 0, .int .i64 0, .int .i64 0] := by
    have := Blk.new ((w.alloc (.cells #[.int .i64 (5), .int .i64 d, .int .i64 a, .int .i64 b, .int .i64 imm] 25)).alloc (.cells (stV p R) 98)) 98 #[.int .i64 0, .int .i64 0, .int .i64 0, .int .i64 0, .int .i64 0, .int .i64 0, .int .i64 0, .int .i64 0, .int .i64 0]
    rw [World.size_alloc, World.size_alloc, hX, hW] at this
    exact this
  have CI := hide (fun V (ov : Only [] W V) => show V.cell? ⟨X, 0, none⟩ = some (.int .i64 (5)) from (bI.only ov (by simp)).cell 0)
  have DA := hide (fun V => does_any V)
  have HX := hide hX
  have HWX := hide (show X + 3 ≤ W.heap.size by have := bX.lt; omega)
  have OW := hide oW
  have BI := hide bI
  have BZ := hide bZ
  have BX := hide bX
  have LK := hide (fun (V : World) (mb nn : Nat) (h : Mp Tryz.prog 23 V mb (dF 6) nn) => show (Instr.lookup 132 (.map (some mb)) (.int .i64 5) true).run Tryz.prog V = .ok (.tuple #[.func (.func 103) #[] #[], .bool true]) V from by
    obtain ⟨l, hl⟩ := key22 5 (by decide)
    exact (h.look keyed22 Tryz.underlying132 hl (dF_some 6 5 (by omega) (by omega))).2)
  obtain ⟨nm, hnm⟩ : ∃ nm, ByteArray.mk (nmB 5).toArray = nm := ⟨_, rfl⟩
  have OF := hide (fun W => show Calls Tryz.prog 37 #[.int .i64 5] W fun e w' => e = .returned (.tuple #[.agg #[.string nm, .bool false, .bool false, .bool false, .int .i64 2], .bool true]) ∧ Only [] W w' from by rw [← hnm]; exact of_ok 5 (by decide) W)
  have e1 : ∃ pw, IntKind.i64.wrap (p + 1) = pw := ⟨_, rfl⟩
  obtain ⟨pw, hpw⟩ := e1
  have PGF := PGF.out
  skip
  skip
  have PGF := hide PGF
  unfold stV at hW
  have HW := hide hW
  clear oW bI bZ bX hX hW
  have hst : stV p R = #[.int .i64 p, .int .i64 (R 0), .int .i64 (R 1), .int .i64 (R 2), .int .i64 (R 3), .int .i64 (R 4), .int .i64 (R 5), .int .i64 (R 6), .int .i64 (R 7)] := rfl
  rw [hst]
  clear hst
  go_enter Tryz.func45, Tryz.ntmps45
  go_wp2_with fail
  rw [HX.out, HW.out]
  refine wp_region_held_drew (S := (fun V => Only [] W V)) (by kernel_rfl) ((Only.refl _ W).drew) (fun hHeld => ?_)
  revert hHeld
  generalize W.drew = u0
  intro hHeld
  obtain ⟨mb, hmb⟩ : ∃ mb, u0.heap.size = mb := ⟨_, rfl⟩
  refine wpAnyH_take (i := 1) (oi := ⟨some 13, _, _, _, _, _⟩) (v := ?vs15_1) rfl (by kernel_rfl) (by kernel_rfl) (by kernel_rfl) (fun _ _ _ h => h) (Or.inl ⟨by rfl, ?hys15_1⟩) (by assumption) ?rests15_1
  case hys15_1 => (intro V hSw; (try dsimp only at hSw); go_simp; first | done | (with_reducible rfl))
  try simp only [Act.put, List.setIfInBounds_toArray, List.set_cons_zero, List.set_cons_succ]
  refine wpAnyH_take (i := 2) (oi := ⟨some 14, _, _, _, _, _⟩) (v := ?vs15_2) rfl (by kernel_rfl) (by kernel_rfl) (by kernel_rfl) (fun _ _ _ h => h) (Or.inl ⟨by rfl, ?hys15_2⟩) (by assumption) ?rests15_2
  case hys15_2 => (intro V hSw; (try dsimp only at hSw); have z := CI.out V hSw; go_simp; first | done | (with_reducible rfl))
  try simp only [Act.put, List.setIfInBounds_toArray, List.set_cons_zero, List.set_cons_succ]
  refine wpAnyH_ready (rs := [0]) (by kernel_rfl) (by simp) ?_
  refine AllReadyH.cons (o := ⟨some 12, _, _, _, _, _⟩) rfl (fun K hK => ?_) (AllReadyH.nil)
  rw [if_pos (by rfl)]
  go_simp
  (with_reducible refine (DA.out _).mono ?_); rintro e u1 ⟨rfl, ⟨nn, MP⟩, o'⟩; rw [hmb] at MP ⊢; have MP := hide MP; have OS := hide ((show Only [] W u0 from hHeld).trans0 o')
  try dsimp only
  refine hK.out _ _ (OS.out) (fun hHeld => ?_)
  clear hK K
  try simp only [Act.put, List.setIfInBounds_toArray, List.set_cons_zero, List.set_cons_succ]
  refine wpAnyH_ready (rs := [3]) (by kernel_rfl) (by simp) ?_
  refine AllReadyH.cons (o := ⟨some 15, _, _, _, _, _⟩) rfl (fun K hK => ?_) (AllReadyH.nil)
  rw [if_pos (by rfl)]
  have z := LK.out _ _ _ MP.out
  go_simp
  try dsimp only
  refine hK.out _ _ ((show Only [] W u1 from hHeld)) (fun hHeld => ?_)
  clear hK K
  try simp only [Act.put, List.setIfInBounds_toArray, List.set_cons_zero, List.set_cons_succ]
  refine wpAnyH_take (i := 4) (oi := ⟨some 11, _, _, _, _, _⟩) (v := ?vs15_3) rfl (by kernel_rfl) (by kernel_rfl) (by kernel_rfl) (fun _ _ _ h => h) (Or.inl ⟨by rfl, ?hys15_3⟩) (by assumption) ?rests15_3
  case hys15_3 => (intro V hSw; (try dsimp only at hSw); go_simp; first | done | (with_reducible rfl))
  try simp only [Act.put, List.setIfInBounds_toArray, List.set_cons_zero, List.set_cons_succ]
  refine wpAnyH_take (i := 5) (oi := ⟨some 16, _, _, _, _, _⟩) (v := ?vs15_4) rfl (by kernel_rfl) (by kernel_rfl) (by kernel_rfl) (fun _ _ _ h => h) (Or.inl ⟨by rfl, ?hys15_4⟩) (by assumption) ?rests15_4
  case hys15_4 => (intro V hSw; (try dsimp only at hSw); go_simp; first | done | (with_reducible rfl))
  try simp only [Act.put, List.setIfInBounds_toArray, List.set_cons_zero, List.set_cons_succ]
  refine wpAnyH_take (i := 6) (oi := ⟨some 17, _, _, _, _, _⟩) (v := ?vs15_5) rfl (by kernel_rfl) (by kernel_rfl) (by kernel_rfl) (fun _ _ _ h => h) (Or.inl ⟨by rfl, ?hys15_5⟩) (by assumption) ?rests15_5
  case hys15_5 => (intro V hSw; (try dsimp only at hSw); go_simp; first | done | (with_reducible rfl))
  try simp only [Act.put, List.setIfInBounds_toArray, List.set_cons_zero, List.set_cons_succ]
  refine wpAnyH_take (i := 7) (oi := ⟨some 6, _, _, _, _, _⟩) (v := ?vs15_6) rfl (by kernel_rfl) (by kernel_rfl) (by kernel_rfl) (fun _ _ _ h => h) (Or.inl ⟨by rfl, ?hys15_6⟩) (by assumption) ?rests15_6
  case hys15_6 => (intro V hSw; (try dsimp only at hSw); go_simp; first | done | (with_reducible rfl))
  try simp only [Act.put, List.setIfInBounds_toArray, List.set_cons_zero, List.set_cons_succ]
  refine wpAnyH_take (i := 8) (oi := ⟨some 7, _, _, _, _, _⟩) (v := ?vs15_7) rfl (by kernel_rfl) (by kernel_rfl) (by kernel_rfl) (fun _ _ _ h => h) (Or.inl ⟨by rfl, ?hys15_7⟩) (by assumption) ?rests15_7
  case hys15_7 => (intro V hSw; (try dsimp only at hSw); go_simp; first | done | (with_reducible rfl))
  try simp only [Act.put, List.setIfInBounds_toArray, List.set_cons_zero, List.set_cons_succ]
  refine wpAnyH_done (by kernel_rfl) ?_ _
  have OS := hide (show Only [] W u1 from hHeld)
  have t0 := (BI.out.only OS.out (by simp)).cell 0
  clear hHeld hmb MP LK DA CI
  go_wp2_with (first
    | (go_at_call 37; (with_reducible refine (OF.out _).mono ?_); rintro e u2 ⟨rfl, o2⟩; have oo := (OS.out.trans0 o2).alloc (.cells #[.string nm, .bool false, .bool false, .bool false, .int .i64 2] 83); have B3I := BI.out.only oo (by simp); have B3Z := hide (BZ.out.only oo (by simp)); have B3X := hide (BX.out.only oo (by simp)); have O3 := hide (OW.out.trans0 oo); have B3O := Blk.new u2 83 #[.string nm, .bool false, .bool false, .bool false, .int .i64 2]; have i0 := B3I.cell 0; have i1 := B3I.cell 1; have i2 := B3I.cell 2; have i3 := B3I.cell 3; have i4 := B3I.cell 4; have q1 := B3O.cell 1; have q2 := B3O.cell 2; have q3 := B3O.cell 3; have z0 : (u2.alloc (.cells #[.string nm, .bool false, .bool false, .bool false, .int .i64 2] 83)).cell? ⟨X + 1, 0, none⟩ = some (.int .i64 p) := B3Z.out.cell 0; have z1 : (u2.alloc (.cells #[.string nm, .bool false, .bool false, .bool false, .int .i64 2] 83)).cell? ⟨X + 1, 1, none⟩ = some (.int .i64 (R 0)) := B3Z.out.cell 1; have z2 : (u2.alloc (.cells #[.string nm, .bool false, .bool false, .bool false, .int .i64 2] 83)).cell? ⟨X + 1, 2, none⟩ = some (.int .i64 (R 1)) := B3Z.out.cell 2; have z3 : (u2.alloc (.cells #[.string nm, .bool false, .bool false, .bool false, .int .i64 2] 83)).cell? ⟨X + 1, 3, none⟩ = some (.int .i64 (R 2)) := B3Z.out.cell 3; have z4 : (u2.alloc (.cells #[.string nm, .bool false, .bool false, .bool false, .int .i64 2] 83)).cell? ⟨X + 1, 4, none⟩ = some (.int .i64 (R 3)) := B3Z.out.cell 4; have z5 : (u2.alloc (.cells #[.string nm, .bool false, .bool false, .bool false, .int .i64 2] 83)).cell? ⟨X + 1, 5, none⟩ = some (.int .i64 (R 4)) := B3Z.out.cell 5; have z6 : (u2.alloc (.cells #[.string nm, .bool false, .bool false, .bool false, .int .i64 2] 83)).cell? ⟨X + 1, 6, none⟩ = some (.int .i64 (R 5)) := B3Z.out.cell 6; have z7 : (u2.alloc (.cells #[.string nm, .bool false, .bool false, .bool false, .int .i64 2] 83)).cell? ⟨X + 1, 7, none⟩ = some (.int .i64 (R 6)) := B3Z.out.cell 7; have z8 : (u2.alloc (.cells #[.string nm, .bool false, .bool false, .bool false, .int .i64 2] 83)).cell? ⟨X + 1, 8, none⟩ = some (.int .i64 (R 7)) := B3Z.out.cell 8; have fz0 := B3Z.out.frozen 0; clear oo o2 B3I B3O)
    | (go_at_call 103; clear z0 z1 z2 z3 z4 z5 z6 z7 z8 fz0; refine (does5 5 d a b imm pw R (X + 1) _ (by have := B3Z.out.set_ 0 (.int .i64 pw); rw [stV_pc] at this; exact this)).mono ?_; rintro e u4 ⟨rfl, bz, oz⟩; have bz := bz; have OZ := hide oz; have BZ4 := hide bz; have B4X := hide ((B3X.out.far (p := ⟨X + 1, 0, none⟩) (by simp) (.int .i64 pw)).only oz (by simp)); have O4 := hide ((O3.out.mono (T := [X + 1]) (by simp)).setCell (p := ⟨X + 1, 0, none⟩) (.inl (by simp)) (.int .i64 pw)); have z0 : u4.cell? ⟨X + 1, 0, none⟩ = some (.int .i64 imm) := BZ4.out.cell 0; have z1 : u4.cell? ⟨X + 1, 1, none⟩ = some (.int .i64 (R 0)) := BZ4.out.cell 1; have z2 : u4.cell? ⟨X + 1, 2, none⟩ = some (.int .i64 (R 1)) := BZ4.out.cell 2; have z3 : u4.cell? ⟨X + 1, 3, none⟩ = some (.int .i64 (R 2)) := BZ4.out.cell 3; have z4 : u4.cell? ⟨X + 1, 4, none⟩ = some (.int .i64 (R 3)) := BZ4.out.cell 4; have z5 : u4.cell? ⟨X + 1, 5, none⟩ = some (.int .i64 (R 4)) := BZ4.out.cell 5; have z6 : u4.cell? ⟨X + 1, 6, none⟩ = some (.int .i64 (R 5)) := BZ4.out.cell 6; have z7 : u4.cell? ⟨X + 1, 7, none⟩ = some (.int .i64 (R 6)) := BZ4.out.cell 7; have z8 : u4.cell? ⟨X + 1, 8, none⟩ = some (.int .i64 (R 7)) := BZ4.out.cell 8; have x0 : u4.cell? ⟨X + 1 + 1, 0, none⟩ = some (.int .i64 0) := B4X.out.cell 0; have y0 := B4X.out.frozen 0; have x1 : u4.cell? ⟨X + 1 + 1, 1, none⟩ = some (.int .i64 0) := B4X.out.cell 1; have y1 := B4X.out.frozen 1; have x2 : u4.cell? ⟨X + 1 + 1, 2, none⟩ = some (.int .i64 0) := B4X.out.cell 2; have y2 := B4X.out.frozen 2; have x3 : u4.cell? ⟨X + 1 + 1, 3, none⟩ = some (.int .i64 0) := B4X.out.cell 3; have y3 := B4X.out.frozen 3; have x4 : u4.cell? ⟨X + 1 + 1, 4, none⟩ = some (.int .i64 0) := B4X.out.cell 4; have y4 := B4X.out.frozen 4; have x5 : u4.cell? ⟨X + 1 + 1, 5, none⟩ = some (.int .i64 0) := B4X.out.cell 5; have y5 := B4X.out.frozen 5; have x6 : u4.cell? ⟨X + 1 + 1, 6, none⟩ = some (.int .i64 0) := B4X.out.cell 6; have y6 := B4X.out.frozen 6; have x7 : u4.cell? ⟨X + 1 + 1, 7, none⟩ = some (.int .i64 0) := B4X.out.cell 7; have y7 := B4X.out.frozen 7; have x8 : u4.cell? ⟨X + 1 + 1, 8, none⟩ = some (.int .i64 0) := B4X.out.cell 8; have y8 := B4X.out.frozen 8; clear bz oz))
  rw [PGF.out]
  have BFF := (((((((((B4X.out).set_ 0 (.int .i64 imm)).set_ 1 (.int .i64 (R 0))).set_ 2 (.int .i64 (R 1))).set_ 3 (.int .i64 (R 2))).set_ 4 (.int .i64 (R 3))).set_ 5 (.int .i64 (R 4))).set_ 6 (.int .i64 (R 5))).set_ 7 (.int .i64 (R 6))).set_ 8 (.int .i64 (R 7))
  refine bodyPost_ret (v := .tuple #[.agg (stV imm (R)), .bool true]) (results_cell2b Tryz.results45 rfl rfl (load39 (p := imm) (R := R) (by simpa [stV] using BFF))) rfl ⟨rfl, ?_⟩
  exact (((((((((((((O4.out.trans' OZ.out).mono (T := [X + 1, X + 1 + 1]) (by simp)))).setCell (p := ⟨X + 1 + 1, 0, none⟩) (.inl (by simp)) _).setCell (p := ⟨X + 1 + 1, 1, none⟩) (.inl (by simp)) _).setCell (p := ⟨X + 1 + 1, 2, none⟩) (.inl (by simp)) _).setCell (p := ⟨X + 1 + 1, 3, none⟩) (.inl (by simp)) _).setCell (p := ⟨X + 1 + 1, 4, none⟩) (.inl (by simp)) _).setCell (p := ⟨X + 1 + 1, 5, none⟩) (.inl (by simp)) _).setCell (p := ⟨X + 1 + 1, 6, none⟩) (.inl (by simp)) _).setCell (p := ⟨X + 1 + 1, 7, none⟩) (.inl (by simp)) _).setCell (p := ⟨X + 1 + 1, 8, none⟩) (.inl (by simp)) _).mono (fun x hx => .inr (by have := HX.out; simp at hx; omega))
set_option maxHeartbeats 8000000 in
theorem step6_bada (d : Int) (a : Int) (ha : a < 0 ∨ 7 < a) (b : Int) (imm p : Int) (R : Nat → Int) (w : World) : Calls Tryz.prog 45 #[.agg #[.int .i64 (6), .int .i64 d, .int .i64 a, .int .i64 b, .int .i64 imm], .agg (stV p R)] w fun e w' => e = .returned (stepV ⟨6, d, a, b, imm⟩ p R) ∧ Only [] w w' := by
  have PGF := hide (show stepV ⟨6, d, a, b, imm⟩ p R = .tuple #[.agg (stV p R), .bool false] from by
    have h1 : stepOk ⟨6, d, a, b, imm⟩ = false := by
      rw [Bool.eq_false_iff]
      unfold stepOk inReg
      simp [shp]
      omega
    unfold stepV
    rw [h1]
    rfl)
  obtain ⟨X, hX⟩ : ∃ X, w.heap.size = X := ⟨_, rfl⟩
  obtain ⟨W, hW⟩ : ∃ W, ((w.alloc (.cells #[.int .i64 (6), .int .i64 d, .int .i64 a, .int .i64 b, .int .i64 imm] 25)).alloc (.cells (stV p R) 98)).alloc (.cells #[.int .i64 0, .int .i64 0, .int .i64 0, .int .i64 0, .int .i64 0, .int .i64 0, .int .i64 0, .int .i64 0, .int .i64 0] 98) = W := ⟨_, rfl⟩
  have oW : Only [] w W := by rw [← hW]; exact (((Only.refl [] w).alloc _).alloc _).alloc _
  have bI : Blk W X 25 #[.int .i64 (6), .int .i64 d, .int .i64 a, .int .i64 b, .int .i64 imm] := by rw [← hW, ← hX]; exact ((Blk.new w 25 _).alloc _).alloc _
  have bZ : Blk W (X + 1) 98 (stV p R) := by
    have := (Blk.new (w.alloc (.cells #[.int .i64 (6), .int .i64 d, .int .i64 a, .int .i64 b, .int .i64 imm] 25)) 98 (stV p R)).alloc (.cells #[.int .i64 0, .int .i64 0, .int .i64 0, .int .i64 0, .int .i64 0, .int .i64 0, .int .i64 0, .int .i64 0, .int .i64 0] 98)
    rw [World.size_alloc, hX, hW] at this
    exact this
  have bX : Blk W (X + 1 + 1) 98 #[.int .i64 0, .int .i64 0, .int .i64 0, .int .i64 0, .int .i64 0, .int .i64 0, .int .i64 0, .int .i64 0, .int .i64 0] := by
    have := Blk.new ((w.alloc (.cells #[.int .i64 (6), .int .i64 d, .int .i64 a, .int .i64 b, .int .i64 imm] 25)).alloc (.cells (stV p R) 98)) 98 #[.int .i64 0, .int .i64 0, .int .i64 0, .int .i64 0, .int .i64 0, .int .i64 0, .int .i64 0, .int .i64 0, .int .i64 0]
    rw [World.size_alloc, World.size_alloc, hX, hW] at this
    exact this
  have CI := hide (fun V (ov : Only [] W V) => show V.cell? ⟨X, 0, none⟩ = some (.int .i64 (6)) from (bI.only ov (by simp)).cell 0)
  have DA := hide (fun V => does_any V)
  have HX := hide hX
  have HWX := hide (show X + 3 ≤ W.heap.size by have := bX.lt; omega)
  have OW := hide oW
  have BI := hide bI
  have BZ := hide bZ
  have BX := hide bX
  have LK := hide (fun (V : World) (mb nn : Nat) (h : Mp Tryz.prog 23 V mb (dF 6) nn) => show (Instr.lookup 132 (.map (some mb)) (.int .i64 6) true).run Tryz.prog V = .ok (.tuple #[.func (.func 104) #[] #[], .bool true]) V from by
    obtain ⟨l, hl⟩ := key22 6 (by decide)
    exact (h.look keyed22 Tryz.underlying132 hl (dF_some 6 6 (by omega) (by omega))).2)
  obtain ⟨nm, hnm⟩ : ∃ nm, ByteArray.mk (nmB 6).toArray = nm := ⟨_, rfl⟩
  have OF := hide (fun W => show Calls Tryz.prog 37 #[.int .i64 6] W fun e w' => e = .returned (.tuple #[.agg #[.string nm, .bool false, .bool true, .bool false, .int .i64 2], .bool true]) ∧ Only [] W w' from by rw [← hnm]; exact of_ok 6 (by decide) W)
  have INa := hide (fun W => show Calls Tryz.prog 82 #[.int .i64 a] W fun e w' => e = .returned (.bool false) ∧ w' = W from (inOk_any a W).mono fun e w' ⟨h1, h2⟩ => ⟨by rw [h1]; rcases ha with h | h; (rw [decide_eq_false (show ¬ 0 ≤ a by omega)]; rfl); (rw [decide_eq_false (show ¬ a ≤ 7 by omega), Bool.and_false]), h2⟩)
  skip
  unfold stV at hW
  have HW := hide hW
  clear oW bI bZ bX hX hW
  have hst : stV p R = #[.int .i64 p, .int .i64 (R 0), .int .i64 (R 1), .int .i64 (R 2), .int .i64 (R 3), .int .i64 (R 4), .int .i64 (R 5), .int .i64 (R 6), .int .i64 (R 7)] := rfl
  rw [hst]
  clear hst
  go_enter Tryz.func45, Tryz.ntmps45
  go_wp2_with fail
  rw [HX.out, HW.out]
  refine wp_region_held_drew (S := (fun V => Only [] W V)) (by kernel_rfl) ((Only.refl _ W).drew) (fun hHeld => ?_)
  revert hHeld
  generalize W.drew = u0
  intro hHeld
  obtain ⟨mb, hmb⟩ : ∃ mb, u0.heap.size = mb := ⟨_, rfl⟩
  refine wpAnyH_take (i := 1) (oi := ⟨some 13, _, _, _, _, _⟩) (v := ?vs16_1) rfl (by kernel_rfl) (by kernel_rfl) (by kernel_rfl) (fun _ _ _ h => h) (Or.inl ⟨by rfl, ?hys16_1⟩) (by assumption) ?rests16_1
  case hys16_1 => (intro V hSw; (try dsimp only at hSw); go_simp; first | done | (with_reducible rfl))
  try simp only [Act.put, List.setIfInBounds_toArray, List.set_cons_zero, List.set_cons_succ]
  refine wpAnyH_take (i := 2) (oi := ⟨some 14, _, _, _, _, _⟩) (v := ?vs16_2) rfl (by kernel_rfl) (by kernel_rfl) (by kernel_rfl) (fun _ _ _ h => h) (Or.inl ⟨by rfl, ?hys16_2⟩) (by assumption) ?rests16_2
  case hys16_2 => (intro V hSw; (try dsimp only at hSw); have z := CI.out V hSw; go_simp; first | done | (with_reducible rfl))
  try simp only [Act.put, List.setIfInBounds_toArray, List.set_cons_zero, List.set_cons_succ]
  refine wpAnyH_ready (rs := [0]) (by kernel_rfl) (by simp) ?_
  refine AllReadyH.cons (o := ⟨some 12, _, _, _, _, _⟩) rfl (fun K hK => ?_) (AllReadyH.nil)
  rw [if_pos (by rfl)]
  go_simp
  (with_reducible refine (DA.out _).mono ?_); rintro e u1 ⟨rfl, ⟨nn, MP⟩, o'⟩; rw [hmb] at MP ⊢; have MP := hide MP; have OS := hide ((show Only [] W u0 from hHeld).trans0 o')
  try dsimp only
  refine hK.out _ _ (OS.out) (fun hHeld => ?_)
  clear hK K
  try simp only [Act.put, List.setIfInBounds_toArray, List.set_cons_zero, List.set_cons_succ]
  refine wpAnyH_ready (rs := [3]) (by kernel_rfl) (by simp) ?_
  refine AllReadyH.cons (o := ⟨some 15, _, _, _, _, _⟩) rfl (fun K hK => ?_) (AllReadyH.nil)
  rw [if_pos (by rfl)]
  have z := LK.out _ _ _ MP.out
  go_simp
  try dsimp only
  refine hK.out _ _ ((show Only [] W u1 from hHeld)) (fun hHeld => ?_)
  clear hK K
  try simp only [Act.put, List.setIfInBounds_toArray, List.set_cons_zero, List.set_cons_succ]
  refine wpAnyH_take (i := 4) (oi := ⟨some 11, _, _, _, _, _⟩) (v := ?vs16_3) rfl (by kernel_rfl) (by kernel_rfl) (by kernel_rfl) (fun _ _ _ h => h) (Or.inl ⟨by rfl, ?hys16_3⟩) (by assumption) ?rests16_3
  case hys16_3 => (intro V hSw; (try dsimp only at hSw); go_simp; first | done | (with_reducible rfl))
  try simp only [Act.put, List.setIfInBounds_toArray, List.set_cons_zero, List.set_cons_succ]
  refine wpAnyH_take (i := 5) (oi := ⟨some 16, _, _, _, _, _⟩) (v := ?vs16_4) rfl (by kernel_rfl) (by kernel_rfl) (by kernel_rfl) (fun _ _ _ h => h) (Or.inl ⟨by rfl, ?hys16_4⟩) (by assumption) ?rests16_4
  case hys16_4 => (intro V hSw; (try dsimp only at hSw); go_simp; first | done | (with_reducible rfl))
  try simp only [Act.put, List.setIfInBounds_toArray, List.set_cons_zero, List.set_cons_succ]
  refine wpAnyH_take (i := 6) (oi := ⟨some 17, _, _, _, _, _⟩) (v := ?vs16_5) rfl (by kernel_rfl) (by kernel_rfl) (by kernel_rfl) (fun _ _ _ h => h) (Or.inl ⟨by rfl, ?hys16_5⟩) (by assumption) ?rests16_5
  case hys16_5 => (intro V hSw; (try dsimp only at hSw); go_simp; first | done | (with_reducible rfl))
  try simp only [Act.put, List.setIfInBounds_toArray, List.set_cons_zero, List.set_cons_succ]
  refine wpAnyH_take (i := 7) (oi := ⟨some 6, _, _, _, _, _⟩) (v := ?vs16_6) rfl (by kernel_rfl) (by kernel_rfl) (by kernel_rfl) (fun _ _ _ h => h) (Or.inl ⟨by rfl, ?hys16_6⟩) (by assumption) ?rests16_6
  case hys16_6 => (intro V hSw; (try dsimp only at hSw); go_simp; first | done | (with_reducible rfl))
  try simp only [Act.put, List.setIfInBounds_toArray, List.set_cons_zero, List.set_cons_succ]
  refine wpAnyH_take (i := 8) (oi := ⟨some 7, _, _, _, _, _⟩) (v := ?vs16_7) rfl (by kernel_rfl) (by kernel_rfl) (by kernel_rfl) (fun _ _ _ h => h) (Or.inl ⟨by rfl, ?hys16_7⟩) (by assumption) ?rests16_7
  case hys16_7 => (intro V hSw; (try dsimp only at hSw); go_simp; first | done | (with_reducible rfl))
  try simp only [Act.put, List.setIfInBounds_toArray, List.set_cons_zero, List.set_cons_succ]
  refine wpAnyH_done (by kernel_rfl) ?_ _
  have OS := hide (show Only [] W u1 from hHeld)
  have t0 := (BI.out.only OS.out (by simp)).cell 0
  clear hHeld hmb MP LK DA CI
  go_wp2_with (first
    | (go_at_call 37; (with_reducible refine (OF.out _).mono ?_); rintro e u2 ⟨rfl, o2⟩; have oo := (OS.out.trans0 o2).alloc (.cells #[.string nm, .bool false, .bool true, .bool false, .int .i64 2] 83); have B3I := BI.out.only oo (by simp); have B3Z := hide (BZ.out.only oo (by simp)); have B3X := hide (BX.out.only oo (by simp)); have O3 := hide (OW.out.trans0 oo); have B3O := Blk.new u2 83 #[.string nm, .bool false, .bool true, .bool false, .int .i64 2]; have i0 := B3I.cell 0; have i1 := B3I.cell 1; have i2 := B3I.cell 2; have i3 := B3I.cell 3; have i4 := B3I.cell 4; have q1 := B3O.cell 1; have q2 := B3O.cell 2; have q3 := B3O.cell 3; have z0 : (u2.alloc (.cells #[.string nm, .bool false, .bool true, .bool false, .int .i64 2] 83)).cell? ⟨X + 1, 0, none⟩ = some (.int .i64 p) := B3Z.out.cell 0; have z1 : (u2.alloc (.cells #[.string nm, .bool false, .bool true, .bool false, .int .i64 2] 83)).cell? ⟨X + 1, 1, none⟩ = some (.int .i64 (R 0)) := B3Z.out.cell 1; have z2 : (u2.alloc (.cells #[.string nm, .bool false, .bool true, .bool false, .int .i64 2] 83)).cell? ⟨X + 1, 2, none⟩ = some (.int .i64 (R 1)) := B3Z.out.cell 2; have z3 : (u2.alloc (.cells #[.string nm, .bool false, .bool true, .bool false, .int .i64 2] 83)).cell? ⟨X + 1, 3, none⟩ = some (.int .i64 (R 2)) := B3Z.out.cell 3; have z4 : (u2.alloc (.cells #[.string nm, .bool false, .bool true, .bool false, .int .i64 2] 83)).cell? ⟨X + 1, 4, none⟩ = some (.int .i64 (R 3)) := B3Z.out.cell 4; have z5 : (u2.alloc (.cells #[.string nm, .bool false, .bool true, .bool false, .int .i64 2] 83)).cell? ⟨X + 1, 5, none⟩ = some (.int .i64 (R 4)) := B3Z.out.cell 5; have z6 : (u2.alloc (.cells #[.string nm, .bool false, .bool true, .bool false, .int .i64 2] 83)).cell? ⟨X + 1, 6, none⟩ = some (.int .i64 (R 5)) := B3Z.out.cell 6; have z7 : (u2.alloc (.cells #[.string nm, .bool false, .bool true, .bool false, .int .i64 2] 83)).cell? ⟨X + 1, 7, none⟩ = some (.int .i64 (R 6)) := B3Z.out.cell 7; have z8 : (u2.alloc (.cells #[.string nm, .bool false, .bool true, .bool false, .int .i64 2] 83)).cell? ⟨X + 1, 8, none⟩ = some (.int .i64 (R 7)) := B3Z.out.cell 8; have x0 : (u2.alloc (.cells #[.string nm, .bool false, .bool true, .bool false, .int .i64 2] 83)).cell? ⟨X + 1 + 1, 0, none⟩ = some (.int .i64 0) := B3X.out.cell 0; have y0 := B3X.out.frozen 0; have x1 : (u2.alloc (.cells #[.string nm, .bool false, .bool true, .bool false, .int .i64 2] 83)).cell? ⟨X + 1 + 1, 1, none⟩ = some (.int .i64 0) := B3X.out.cell 1; have y1 := B3X.out.frozen 1; have x2 : (u2.alloc (.cells #[.string nm, .bool false, .bool true, .bool false, .int .i64 2] 83)).cell? ⟨X + 1 + 1, 2, none⟩ = some (.int .i64 0) := B3X.out.cell 2; have y2 := B3X.out.frozen 2; have x3 : (u2.alloc (.cells #[.string nm, .bool false, .bool true, .bool false, .int .i64 2] 83)).cell? ⟨X + 1 + 1, 3, none⟩ = some (.int .i64 0) := B3X.out.cell 3; have y3 := B3X.out.frozen 3; have x4 : (u2.alloc (.cells #[.string nm, .bool false, .bool true, .bool false, .int .i64 2] 83)).cell? ⟨X + 1 + 1, 4, none⟩ = some (.int .i64 0) := B3X.out.cell 4; have y4 := B3X.out.frozen 4; have x5 : (u2.alloc (.cells #[.string nm, .bool false, .bool true, .bool false, .int .i64 2] 83)).cell? ⟨X + 1 + 1, 5, none⟩ = some (.int .i64 0) := B3X.out.cell 5; have y5 := B3X.out.frozen 5; have x6 : (u2.alloc (.cells #[.string nm, .bool false, .bool true, .bool false, .int .i64 2] 83)).cell? ⟨X + 1 + 1, 6, none⟩ = some (.int .i64 0) := B3X.out.cell 6; have y6 := B3X.out.frozen 6; have x7 : (u2.alloc (.cells #[.string nm, .bool false, .bool true, .bool false, .int .i64 2] 83)).cell? ⟨X + 1 + 1, 7, none⟩ = some (.int .i64 0) := B3X.out.cell 7; have y7 := B3X.out.frozen 7; have x8 : (u2.alloc (.cells #[.string nm, .bool false, .bool true, .bool false, .int .i64 2] 83)).cell? ⟨X + 1 + 1, 8, none⟩ = some (.int .i64 0) := B3X.out.cell 8; have y8 := B3X.out.frozen 8; clear oo o2 B3I B3O)
    | (go_at_call 82; (with_reducible refine (INa.out _).mono ?_); rintro e w' ⟨rfl, hw⟩; obtain rfl := hw.symm; clear hw))
  rw [PGF.out]
  have BFF := (((((((((B3X.out).set_ 0 (.int .i64 p)).set_ 1 (.int .i64 (R 0))).set_ 2 (.int .i64 (R 1))).set_ 3 (.int .i64 (R 2))).set_ 4 (.int .i64 (R 3))).set_ 5 (.int .i64 (R 4))).set_ 6 (.int .i64 (R 5))).set_ 7 (.int .i64 (R 6))).set_ 8 (.int .i64 (R 7))
  refine bodyPost_ret (v := .tuple #[.agg (stV p (R)), .bool false]) (results_cell2b Tryz.results45 rfl rfl (load39 (p := p) (R := R) (by simpa [stV] using BFF))) rfl ⟨rfl, ?_⟩
  exact (((((((((((O3.out.mono (T := [X + 1 + 1]) (by simp))).setCell (p := ⟨X + 1 + 1, 0, none⟩) (.inl (by simp)) _).setCell (p := ⟨X + 1 + 1, 1, none⟩) (.inl (by simp)) _).setCell (p := ⟨X + 1 + 1, 2, none⟩) (.inl (by simp)) _).setCell (p := ⟨X + 1 + 1, 3, none⟩) (.inl (by simp)) _).setCell (p := ⟨X + 1 + 1, 4, none⟩) (.inl (by simp)) _).setCell (p := ⟨X + 1 + 1, 5, none⟩) (.inl (by simp)) _).setCell (p := ⟨X + 1 + 1, 6, none⟩) (.inl (by simp)) _).setCell (p := ⟨X + 1 + 1, 7, none⟩) (.inl (by simp)) _).setCell (p := ⟨X + 1 + 1, 8, none⟩) (.inl (by simp)) _).mono (fun x hx => .inr (by have := HX.out; simp at hx; omega))
set_option maxHeartbeats 8000000 in
theorem step6_ok (d : Int) (a : Nat) (ha : a < 8) (b : Int) (imm p : Int) (R : Nat → Int) (w : World) : Calls Tryz.prog 45 #[.agg #[.int .i64 (6), .int .i64 d, .int .i64 ((a : Nat) : Int), .int .i64 b, .int .i64 imm], .agg (stV p R)] w fun e w' => e = .returned (stepV ⟨6, d, ((a : Nat) : Int), b, imm⟩ p R) ∧ Only [] w w' := by
  have PGF := hide (show stepV ⟨6, d, ((a : Nat) : Int), b, imm⟩ p R = .tuple #[.agg (stV (if R a = 0 then imm else IntKind.i64.wrap (p + 1)) R), .bool true] from by
    have h1 : stepOk ⟨6, d, ((a : Nat) : Int), b, imm⟩ = true := by unfold stepOk inReg; simp [shp] <;> omega
    have h2 : stepPC ⟨6, d, ((a : Nat) : Int), b, imm⟩ p R = (if R a = 0 then imm else IntKind.i64.wrap (p + 1)) := by unfold stepPC; simp
    have h3 : stepR ⟨6, d, ((a : Nat) : Int), b, imm⟩ R = R := by unfold stepR; simp
    unfold stepV
    rw [h1, h2, h3]
    rfl)
  obtain ⟨X, hX⟩ : ∃ X, w.heap.size = X := ⟨_, rfl⟩
  obtain ⟨W, hW⟩ : ∃ W, ((w.alloc (.cells #[.int .i64 (6), .int .i64 d, .int .i64 ((a : Nat) : Int), .int .i64 b, .int .i64 imm] 25)).alloc (.cells (stV p R) 98)).alloc (.cells #[.int .i64 0, .int .i64 0, .int .i64 0, .int .i64 0, .int .i64 0, .int .i64 0, .int .i64 0, .int .i64 0, .int .i64 0] 98) = W := ⟨_, rfl⟩
  have oW : Only [] w W := by rw [← hW]; exact (((Only.refl [] w).alloc _).alloc _).alloc _
  have bI : Blk W X 25 #[.int .i64 (6), .int .i64 d, .int .i64 ((a : Nat) : Int), .int .i64 b, .int .i64 imm] := by rw [← hW, ← hX]; exact ((Blk.new w 25 _).alloc _).alloc _
  have bZ : Blk W (X + 1) 98 (stV p R) := by
    have := (Blk.new (w.alloc (.cells #[.int .i64 (6), .int .i64 d, .int .i64 ((a : Nat) : Int), .int .i64 b, .int .i64 imm] 25)) 98 (stV p R)).alloc (.cells #[.int .i64 0, .int .i64 0, .int .i64 0, .int .i64 0, .int .i64 0, .int .i64 0, .int .i64 0, .int .i64 0, .int .i64 0] 98)
    rw [World.size_alloc, hX, hW] at this
    exact this
  have bX : Blk W (X + 1 + 1) 98 #[.int .i64 0, .int .i64 0, .int .i64 0, .int .i64 0, .int .i64 0, .int .i64 0, .int .i64 0, .int .i64 0, .int .i64 0] := by
    have := Blk.new ((w.alloc (.cells #[.int .i64 (6), .int .i64 d, .int .i64 ((a : Nat) : Int), .int .i64 b, .int .i64 imm] 25)).alloc (.cells (stV p R) 98)) 98 #[.int .i64 0, .int .i64 0, .int .i64 0, .int .i64 0, .int .i64 0, .int .i64 0, .int .i64 0, .int .i64 0, .int .i64 0]
    rw [World.size_alloc, World.size_alloc, hX, hW] at this
    exact this
  have CI := hide (fun V (ov : Only [] W V) => show V.cell? ⟨X, 0, none⟩ = some (.int .i64 (6)) from (bI.only ov (by simp)).cell 0)
  have DA := hide (fun V => does_any V)
  have HX := hide hX
  have HWX := hide (show X + 3 ≤ W.heap.size by have := bX.lt; omega)
  have OW := hide oW
  have BI := hide bI
  have BZ := hide bZ
  have BX := hide bX
  have LK := hide (fun (V : World) (mb nn : Nat) (h : Mp Tryz.prog 23 V mb (dF 6) nn) => show (Instr.lookup 132 (.map (some mb)) (.int .i64 6) true).run Tryz.prog V = .ok (.tuple #[.func (.func 104) #[] #[], .bool true]) V from by
    obtain ⟨l, hl⟩ := key22 6 (by decide)
    exact (h.look keyed22 Tryz.underlying132 hl (dF_some 6 6 (by omega) (by omega))).2)
  obtain ⟨nm, hnm⟩ : ∃ nm, ByteArray.mk (nmB 6).toArray = nm := ⟨_, rfl⟩
  have OF := hide (fun W => show Calls Tryz.prog 37 #[.int .i64 6] W fun e w' => e = .returned (.tuple #[.agg #[.string nm, .bool false, .bool true, .bool false, .int .i64 2], .bool true]) ∧ Only [] W w' from by rw [← hnm]; exact of_ok 6 (by decide) W)
  have INa := hide (fun W => show Calls Tryz.prog 82 #[.int .i64 ((a : Nat) : Int)] W fun e w' => e = .returned (.bool true) ∧ w' = W from (inOk_any ((a : Nat) : Int) W).mono fun e w' ⟨h1, h2⟩ => ⟨by rw [h1, decide_eq_true (show (0 : Int) ≤ a by omega), decide_eq_true (show (a : Int) ≤ 7 by omega)]; rfl, h2⟩)
  have e1 : ∃ pw, IntKind.i64.wrap (p + 1) = pw := ⟨_, rfl⟩
  obtain ⟨pw, hpw⟩ := e1
  have PGF := PGF.out
  rw [hpw] at PGF
  obtain ⟨p2, hp2⟩ : ∃ p2, (if R a = 0 then imm else pw) = p2 := ⟨_, rfl⟩
  rw [hp2] at PGF
  have HP2 := hide hp2
  clear hp2
  have PGF := hide PGF
  unfold stV at hW
  have HW := hide hW
  clear oW bI bZ bX hX hW
  have hst : stV p R = #[.int .i64 p, .int .i64 (R 0), .int .i64 (R 1), .int .i64 (R 2), .int .i64 (R 3), .int .i64 (R 4), .int .i64 (R 5), .int .i64 (R 6), .int .i64 (R 7)] := rfl
  rw [hst]
  clear hst
  go_enter Tryz.func45, Tryz.ntmps45
  go_wp2_with fail
  rw [HX.out, HW.out]
  refine wp_region_held_drew (S := (fun V => Only [] W V)) (by kernel_rfl) ((Only.refl _ W).drew) (fun hHeld => ?_)
  revert hHeld
  generalize W.drew = u0
  intro hHeld
  obtain ⟨mb, hmb⟩ : ∃ mb, u0.heap.size = mb := ⟨_, rfl⟩
  refine wpAnyH_take (i := 1) (oi := ⟨some 13, _, _, _, _, _⟩) (v := ?vs17_1) rfl (by kernel_rfl) (by kernel_rfl) (by kernel_rfl) (fun _ _ _ h => h) (Or.inl ⟨by rfl, ?hys17_1⟩) (by assumption) ?rests17_1
  case hys17_1 => (intro V hSw; (try dsimp only at hSw); go_simp; first | done | (with_reducible rfl))
  try simp only [Act.put, List.setIfInBounds_toArray, List.set_cons_zero, List.set_cons_succ]
  refine wpAnyH_take (i := 2) (oi := ⟨some 14, _, _, _, _, _⟩) (v := ?vs17_2) rfl (by kernel_rfl) (by kernel_rfl) (by kernel_rfl) (fun _ _ _ h => h) (Or.inl ⟨by rfl, ?hys17_2⟩) (by assumption) ?rests17_2
  case hys17_2 => (intro V hSw; (try dsimp only at hSw); have z := CI.out V hSw; go_simp; first | done | (with_reducible rfl))
  try simp only [Act.put, List.setIfInBounds_toArray, List.set_cons_zero, List.set_cons_succ]
  refine wpAnyH_ready (rs := [0]) (by kernel_rfl) (by simp) ?_
  refine AllReadyH.cons (o := ⟨some 12, _, _, _, _, _⟩) rfl (fun K hK => ?_) (AllReadyH.nil)
  rw [if_pos (by rfl)]
  go_simp
  (with_reducible refine (DA.out _).mono ?_); rintro e u1 ⟨rfl, ⟨nn, MP⟩, o'⟩; rw [hmb] at MP ⊢; have MP := hide MP; have OS := hide ((show Only [] W u0 from hHeld).trans0 o')
  try dsimp only
  refine hK.out _ _ (OS.out) (fun hHeld => ?_)
  clear hK K
  try simp only [Act.put, List.setIfInBounds_toArray, List.set_cons_zero, List.set_cons_succ]
  refine wpAnyH_ready (rs := [3]) (by kernel_rfl) (by simp) ?_
  refine AllReadyH.cons (o := ⟨some 15, _, _, _, _, _⟩) rfl (fun K hK => ?_) (AllReadyH.nil)
  rw [if_pos (by rfl)]
  have z := LK.out _ _ _ MP.out
  go_simp
  try dsimp only
  refine hK.out _ _ ((show Only [] W u1 from hHeld)) (fun hHeld => ?_)
  clear hK K
  try simp only [Act.put, List.setIfInBounds_toArray, List.set_cons_zero, List.set_cons_succ]
  refine wpAnyH_take (i := 4) (oi := ⟨some 11, _, _, _, _, _⟩) (v := ?vs17_3) rfl (by kernel_rfl) (by kernel_rfl) (by kernel_rfl) (fun _ _ _ h => h) (Or.inl ⟨by rfl, ?hys17_3⟩) (by assumption) ?rests17_3
  case hys17_3 => (intro V hSw; (try dsimp only at hSw); go_simp; first | done | (with_reducible rfl))
  try simp only [Act.put, List.setIfInBounds_toArray, List.set_cons_zero, List.set_cons_succ]
  refine wpAnyH_take (i := 5) (oi := ⟨some 16, _, _, _, _, _⟩) (v := ?vs17_4) rfl (by kernel_rfl) (by kernel_rfl) (by kernel_rfl) (fun _ _ _ h => h) (Or.inl ⟨by rfl, ?hys17_4⟩) (by assumption) ?rests17_4
  case hys17_4 => (intro V hSw; (try dsimp only at hSw); go_simp; first | done | (with_reducible rfl))
  try simp only [Act.put, List.setIfInBounds_toArray, List.set_cons_zero, List.set_cons_succ]
  refine wpAnyH_take (i := 6) (oi := ⟨some 17, _, _, _, _, _⟩) (v := ?vs17_5) rfl (by kernel_rfl) (by kernel_rfl) (by kernel_rfl) (fun _ _ _ h => h) (Or.inl ⟨by rfl, ?hys17_5⟩) (by assumption) ?rests17_5
  case hys17_5 => (intro V hSw; (try dsimp only at hSw); go_simp; first | done | (with_reducible rfl))
  try simp only [Act.put, List.setIfInBounds_toArray, List.set_cons_zero, List.set_cons_succ]
  refine wpAnyH_take (i := 7) (oi := ⟨some 6, _, _, _, _, _⟩) (v := ?vs17_6) rfl (by kernel_rfl) (by kernel_rfl) (by kernel_rfl) (fun _ _ _ h => h) (Or.inl ⟨by rfl, ?hys17_6⟩) (by assumption) ?rests17_6
  case hys17_6 => (intro V hSw; (try dsimp only at hSw); go_simp; first | done | (with_reducible rfl))
  try simp only [Act.put, List.setIfInBounds_toArray, List.set_cons_zero, List.set_cons_succ]
  refine wpAnyH_take (i := 8) (oi := ⟨some 7, _, _, _, _, _⟩) (v := ?vs17_7) rfl (by kernel_rfl) (by kernel_rfl) (by kernel_rfl) (fun _ _ _ h => h) (Or.inl ⟨by rfl, ?hys17_7⟩) (by assumption) ?rests17_7
  case hys17_7 => (intro V hSw; (try dsimp only at hSw); go_simp; first | done | (with_reducible rfl))
  try simp only [Act.put, List.setIfInBounds_toArray, List.set_cons_zero, List.set_cons_succ]
  refine wpAnyH_done (by kernel_rfl) ?_ _
  have OS := hide (show Only [] W u1 from hHeld)
  have t0 := (BI.out.only OS.out (by simp)).cell 0
  clear hHeld hmb MP LK DA CI
  go_wp2_with (first
    | (go_at_call 37; (with_reducible refine (OF.out _).mono ?_); rintro e u2 ⟨rfl, o2⟩; have oo := (OS.out.trans0 o2).alloc (.cells #[.string nm, .bool false, .bool true, .bool false, .int .i64 2] 83); have B3I := BI.out.only oo (by simp); have B3Z := hide (BZ.out.only oo (by simp)); have B3X := hide (BX.out.only oo (by simp)); have O3 := hide (OW.out.trans0 oo); have B3O := Blk.new u2 83 #[.string nm, .bool false, .bool true, .bool false, .int .i64 2]; have i0 := B3I.cell 0; have i1 := B3I.cell 1; have i2 := B3I.cell 2; have i3 := B3I.cell 3; have i4 := B3I.cell 4; have q1 := B3O.cell 1; have q2 := B3O.cell 2; have q3 := B3O.cell 3; have z0 : (u2.alloc (.cells #[.string nm, .bool false, .bool true, .bool false, .int .i64 2] 83)).cell? ⟨X + 1, 0, none⟩ = some (.int .i64 p) := B3Z.out.cell 0; have z1 : (u2.alloc (.cells #[.string nm, .bool false, .bool true, .bool false, .int .i64 2] 83)).cell? ⟨X + 1, 1, none⟩ = some (.int .i64 (R 0)) := B3Z.out.cell 1; have z2 : (u2.alloc (.cells #[.string nm, .bool false, .bool true, .bool false, .int .i64 2] 83)).cell? ⟨X + 1, 2, none⟩ = some (.int .i64 (R 1)) := B3Z.out.cell 2; have z3 : (u2.alloc (.cells #[.string nm, .bool false, .bool true, .bool false, .int .i64 2] 83)).cell? ⟨X + 1, 3, none⟩ = some (.int .i64 (R 2)) := B3Z.out.cell 3; have z4 : (u2.alloc (.cells #[.string nm, .bool false, .bool true, .bool false, .int .i64 2] 83)).cell? ⟨X + 1, 4, none⟩ = some (.int .i64 (R 3)) := B3Z.out.cell 4; have z5 : (u2.alloc (.cells #[.string nm, .bool false, .bool true, .bool false, .int .i64 2] 83)).cell? ⟨X + 1, 5, none⟩ = some (.int .i64 (R 4)) := B3Z.out.cell 5; have z6 : (u2.alloc (.cells #[.string nm, .bool false, .bool true, .bool false, .int .i64 2] 83)).cell? ⟨X + 1, 6, none⟩ = some (.int .i64 (R 5)) := B3Z.out.cell 6; have z7 : (u2.alloc (.cells #[.string nm, .bool false, .bool true, .bool false, .int .i64 2] 83)).cell? ⟨X + 1, 7, none⟩ = some (.int .i64 (R 6)) := B3Z.out.cell 7; have z8 : (u2.alloc (.cells #[.string nm, .bool false, .bool true, .bool false, .int .i64 2] 83)).cell? ⟨X + 1, 8, none⟩ = some (.int .i64 (R 7)) := B3Z.out.cell 8; have fz0 := B3Z.out.frozen 0; clear oo o2 B3I B3O)
    | (go_at_call 82; (with_reducible refine (INa.out _).mono ?_); rintro e w' ⟨rfl, hw⟩; obtain rfl := hw.symm; clear hw)
    | (go_at_call 104; clear z0 z1 z2 z3 z4 z5 z6 z7 z8 fz0; refine (does6 6 d b imm pw R a ha (X + 1) _ (by have := B3Z.out.set_ 0 (.int .i64 pw); rw [stV_pc] at this; exact this)).mono ?_; rintro e u4 ⟨rfl, bz, oz⟩; have bz := bz; rw [HP2.out] at bz; have OZ := hide oz; have BZ4 := hide bz; have B4X := hide ((B3X.out.far (p := ⟨X + 1, 0, none⟩) (by simp) (.int .i64 pw)).only oz (by simp)); have O4 := hide ((O3.out.mono (T := [X + 1]) (by simp)).setCell (p := ⟨X + 1, 0, none⟩) (.inl (by simp)) (.int .i64 pw)); have z0 : u4.cell? ⟨X + 1, 0, none⟩ = some (.int .i64 p2) := BZ4.out.cell 0; have z1 : u4.cell? ⟨X + 1, 1, none⟩ = some (.int .i64 (R 0)) := BZ4.out.cell 1; have z2 : u4.cell? ⟨X + 1, 2, none⟩ = some (.int .i64 (R 1)) := BZ4.out.cell 2; have z3 : u4.cell? ⟨X + 1, 3, none⟩ = some (.int .i64 (R 2)) := BZ4.out.cell 3; have z4 : u4.cell? ⟨X + 1, 4, none⟩ = some (.int .i64 (R 3)) := BZ4.out.cell 4; have z5 : u4.cell? ⟨X + 1, 5, none⟩ = some (.int .i64 (R 4)) := BZ4.out.cell 5; have z6 : u4.cell? ⟨X + 1, 6, none⟩ = some (.int .i64 (R 5)) := BZ4.out.cell 6; have z7 : u4.cell? ⟨X + 1, 7, none⟩ = some (.int .i64 (R 6)) := BZ4.out.cell 7; have z8 : u4.cell? ⟨X + 1, 8, none⟩ = some (.int .i64 (R 7)) := BZ4.out.cell 8; have x0 : u4.cell? ⟨X + 1 + 1, 0, none⟩ = some (.int .i64 0) := B4X.out.cell 0; have y0 := B4X.out.frozen 0; have x1 : u4.cell? ⟨X + 1 + 1, 1, none⟩ = some (.int .i64 0) := B4X.out.cell 1; have y1 := B4X.out.frozen 1; have x2 : u4.cell? ⟨X + 1 + 1, 2, none⟩ = some (.int .i64 0) := B4X.out.cell 2; have y2 := B4X.out.frozen 2; have x3 : u4.cell? ⟨X + 1 + 1, 3, none⟩ = some (.int .i64 0) := B4X.out.cell 3; have y3 := B4X.out.frozen 3; have x4 : u4.cell? ⟨X + 1 + 1, 4, none⟩ = some (.int .i64 0) := B4X.out.cell 4; have y4 := B4X.out.frozen 4; have x5 : u4.cell? ⟨X + 1 + 1, 5, none⟩ = some (.int .i64 0) := B4X.out.cell 5; have y5 := B4X.out.frozen 5; have x6 : u4.cell? ⟨X + 1 + 1, 6, none⟩ = some (.int .i64 0) := B4X.out.cell 6; have y6 := B4X.out.frozen 6; have x7 : u4.cell? ⟨X + 1 + 1, 7, none⟩ = some (.int .i64 0) := B4X.out.cell 7; have y7 := B4X.out.frozen 7; have x8 : u4.cell? ⟨X + 1 + 1, 8, none⟩ = some (.int .i64 0) := B4X.out.cell 8; have y8 := B4X.out.frozen 8; clear bz oz))
  rw [PGF.out]
  have BFF := (((((((((B4X.out).set_ 0 (.int .i64 p2)).set_ 1 (.int .i64 (R 0))).set_ 2 (.int .i64 (R 1))).set_ 3 (.int .i64 (R 2))).set_ 4 (.int .i64 (R 3))).set_ 5 (.int .i64 (R 4))).set_ 6 (.int .i64 (R 5))).set_ 7 (.int .i64 (R 6))).set_ 8 (.int .i64 (R 7))
  refine bodyPost_ret (v := .tuple #[.agg (stV p2 (R)), .bool true]) (results_cell2b Tryz.results45 rfl rfl (load39 (p := p2) (R := R) (by simpa [stV] using BFF))) rfl ⟨rfl, ?_⟩
  exact (((((((((((((O4.out.trans' OZ.out).mono (T := [X + 1, X + 1 + 1]) (by simp)))).setCell (p := ⟨X + 1 + 1, 0, none⟩) (.inl (by simp)) _).setCell (p := ⟨X + 1 + 1, 1, none⟩) (.inl (by simp)) _).setCell (p := ⟨X + 1 + 1, 2, none⟩) (.inl (by simp)) _).setCell (p := ⟨X + 1 + 1, 3, none⟩) (.inl (by simp)) _).setCell (p := ⟨X + 1 + 1, 4, none⟩) (.inl (by simp)) _).setCell (p := ⟨X + 1 + 1, 5, none⟩) (.inl (by simp)) _).setCell (p := ⟨X + 1 + 1, 6, none⟩) (.inl (by simp)) _).setCell (p := ⟨X + 1 + 1, 7, none⟩) (.inl (by simp)) _).setCell (p := ⟨X + 1 + 1, 8, none⟩) (.inl (by simp)) _).mono (fun x hx => .inr (by have := HX.out; simp at hx; omega))
theorem step_any (i : Ins) (p : Int) (R : Nat → Int) (w : World) (hb0 : -9223372036854775808 ≤ i.op) (hb1 : i.op ≤ 9223372036854775807) : Calls Tryz.prog 45 #[.agg (insV i), .agg (stV p R)] w fun e w' => e = .returned (stepV i p R) ∧ Only [] w w' := by
  obtain ⟨o, d, a, b, imm⟩ := i
  simp only at hb0 hb1
  unfold insV
  by_cases ho : o < 1 ∨ 6 < o
  · exact step_other o ho hb0 hb1 d a b imm p R w
  rcases (by omega : o = 1 ∨ o = 2 ∨ o = 3 ∨ o = 4 ∨ o = 5 ∨ o = 6) with rfl | rfl | rfl | rfl | rfl | rfl
  · skip
    by_cases hd : d < 0 ∨ 7 < d
    · exact step1_badd d hd a b imm p R w
    obtain ⟨dn, rfl⟩ : ∃ n : Nat, d = n := ⟨d.toNat, by omega⟩
    have hdn : dn < 8 := by omega
    exact step1_ok dn hdn a b imm p R w
  · skip
    by_cases hd : d < 0 ∨ 7 < d
    · exact step2_badd d hd a b imm p R w
    obtain ⟨dn, rfl⟩ : ∃ n : Nat, d = n := ⟨d.toNat, by omega⟩
    have hdn : dn < 8 := by omega
    by_cases ha : a < 0 ∨ 7 < a
    · exact step2_bada dn hdn a ha b imm p R w
    obtain ⟨an, rfl⟩ : ∃ n : Nat, a = n := ⟨a.toNat, by omega⟩
    have han : an < 8 := by omega
    exact step2_ok dn hdn an han b imm p R w
  · skip
    by_cases hd : d < 0 ∨ 7 < d
    · exact step3_badd d hd a b imm p R w
    obtain ⟨dn, rfl⟩ : ∃ n : Nat, d = n := ⟨d.toNat, by omega⟩
    have hdn : dn < 8 := by omega
    by_cases ha : a < 0 ∨ 7 < a
    · exact step3_bada dn hdn a ha b imm p R w
    obtain ⟨an, rfl⟩ : ∃ n : Nat, a = n := ⟨a.toNat, by omega⟩
    have han : an < 8 := by omega
    by_cases hb : b < 0 ∨ 7 < b
    · exact step3_badb dn hdn an han b hb imm p R w
    obtain ⟨bn, rfl⟩ : ∃ n : Nat, b = n := ⟨b.toNat, by omega⟩
    have hbn : bn < 8 := by omega
    exact step3_ok dn hdn an han bn hbn imm p R w
  · skip
    by_cases hd : d < 0 ∨ 7 < d
    · exact step4_badd d hd a b imm p R w
    obtain ⟨dn, rfl⟩ : ∃ n : Nat, d = n := ⟨d.toNat, by omega⟩
    have hdn : dn < 8 := by omega
    by_cases ha : a < 0 ∨ 7 < a
    · exact step4_bada dn hdn a ha b imm p R w
    obtain ⟨an, rfl⟩ : ∃ n : Nat, a = n := ⟨a.toNat, by omega⟩
    have han : an < 8 := by omega
    by_cases hb : b < 0 ∨ 7 < b
    · exact step4_badb dn hdn an han b hb imm p R w
    obtain ⟨bn, rfl⟩ : ∃ n : Nat, b = n := ⟨b.toNat, by omega⟩
    have hbn : bn < 8 := by omega
    exact step4_ok dn hdn an han bn hbn imm p R w
  · skip
    exact step5_ok d a b imm p R w
  · skip
    by_cases ha : a < 0 ∨ 7 < a
    · exact step6_bada d a ha b imm p R w
    obtain ⟨an, rfl⟩ : ∃ n : Nat, a = n := ⟨a.toNat, by omega⟩
    have han : an < 8 := by omega
    exact step6_ok d an han b imm p R w

end Go.Proofs.YtmaljajdmgkakaaGreatDoor
