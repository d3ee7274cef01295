/- Code: the walk of Step. No condition. -/
import Derived.Test.YtmaljajdmgkakaaGreatDoorCdB
import Derived.Deep.RegionHeld3
namespace Go.Proofs.YtmaljajdmgkakaaGreatDoor
open Go.RowKit
open Go.Maps (Keyed)
set_option linter.unusedVariables false
set_option linter.all false
set_option maxRecDepth 20000

def inReg (n : Bool) (x : Int) : Bool := !n || (decide (0 ≤ x) && decide (x ≤ 7))
def stepOk (i : Ins) : Bool := decide (1 ≤ i.op) && (decide (i.op ≤ 6) && (inReg (shp i.op.toNat).d i.d && (inReg (shp i.op.toNat).a i.a && inReg (shp i.op.toNat).b i.b)))
def stepPC (i : Ins) (p : Int) (R : Nat → Int) : Int := if i.op = 5 then i.imm else if i.op = 6 ∧ R i.a.toNat = 0 then i.imm else IntKind.i64.wrap (p + 1)
def stepR (i : Ins) (R : Nat → Int) : Nat → Int :=
  if i.op = 1 then upR R i.d.toNat i.imm else if i.op = 2 then upR R i.d.toNat (R i.a.toNat)
  else if i.op = 3 then upR R i.d.toNat (IntKind.i64.wrap (R i.a.toNat + R i.b.toNat)) else if i.op = 4 then upR R i.d.toNat (IntKind.i64.wrap (R i.a.toNat - R i.b.toNat)) else R
/-- What Step answers. -/
def stepV (i : Ins) (p : Int) (R : Nat → Int) : Value := if stepOk i then .tuple #[.agg (stV (stepPC i p R) (stepR i R)), .bool true] else .tuple #[.agg (stV p R), .bool false]
theorem load39 {w : World} {g : Nat} {p : Int} {R : Nat → Int} (h : Blk w g 98 (stV p R)) : (loadVar 98 ⟨g, 0, none⟩).run Tryz.prog w = .ok (.agg (stV p R)) w := by
  have x0 : w.cell? ⟨g, 0, none⟩ = some (.int .i64 p) := h.cell 0
  have x1 : w.cell? ⟨g, 1, none⟩ = some (.int .i64 (R 0)) := h.cell 1
  have x2 : w.cell? ⟨g, 2, none⟩ = some (.int .i64 (R 1)) := h.cell 2
  have x3 : w.cell? ⟨g, 3, none⟩ = some (.int .i64 (R 2)) := h.cell 3
  have x4 : w.cell? ⟨g, 4, none⟩ = some (.int .i64 (R 3)) := h.cell 4
  have x5 : w.cell? ⟨g, 5, none⟩ = some (.int .i64 (R 4)) := h.cell 5
  have x6 : w.cell? ⟨g, 6, none⟩ = some (.int .i64 (R 5)) := h.cell 6
  have x7 : w.cell? ⟨g, 7, none⟩ = some (.int .i64 (R 6)) := h.cell 7
  have x8 : w.cell? ⟨g, 8, none⟩ = some (.int .i64 (R 7)) := h.cell 8
  simp [go_sem, x0, x1, x2, x3, x4, x5, x6, x7, x8, stV]
theorem results_cell2b {fn : Func} {t u : Tmp} {ty : TypeId} (h : fn.results = #[.cell t ty, .tmp u]) {tmps : Array Value} {P : Program} {w : World} {g : Addr} {v x : Value} (h0 : tmps.getD t undef = .pointer (some g)) (hx : tmps.getD u undef = x) (hl : (loadVar ty g).run P w = .ok v w) :
    (results fn tmps).run P w = .ok (.tuple #[v, x]) w := by
  have h1 : tmps[t]?.getD undef = .pointer (some g) := by rw [← Array.getD_eq_getD_getElem?]; exact h0
  have h2 : tmps[u]?.getD undef = x := by rw [← Array.getD_eq_getD_getElem?]; exact hx
  simp [results, h, h1, h2, asAddr, hl]
set_option maxHeartbeats 8000000 in
theorem step_other (o : Int) (ho : o < 1 ∨ 6 < o) (hb0 : -9223372036854775808 ≤ o) (hb1 : o ≤ 9223372036854775807) (d : Int) (a : Int) (b : Int) (imm p : Int) (R : Nat → Int) (w : World) : Calls Tryz.prog 45 #[.agg #[.int .i64 (o), .int .i64 d, .int .i64 a, .int .i64 b, .int .i64 imm], .agg (stV p R)] w fun e w' => e = .returned (stepV ⟨o, d, a, b, imm⟩ p R) ∧ Only [] w w' := by
  have PGF := hide (show stepV ⟨o, d, a, b, imm⟩ p R = .tuple #[.agg (stV p R), .bool false] from by
    have h1 : stepOk ⟨o, d, a, b, imm⟩ = false := by
      rw [Bool.eq_false_iff]
      unfold stepOk inReg
      simp [shp]
      omega
    unfold stepV
    rw [h1]
    rfl)
  obtain ⟨X, hX⟩ : ∃ X, w.heap.size = X := ⟨_, rfl⟩
  obtain ⟨W, hW⟩ : ∃ W, ((w.alloc (.cells #[.int .i64 (o), .int .i64 d, .int .i64 a, .int .i64 b, .int .i64 imm] 25)).alloc (.cells (stV p R) 98)).alloc (.cells #[.int .i64 0, .int .i64 0, .int .i64 0, .int .i64 0, .int .i64 0, .int .i64 0, .int .i64 0, .int .i64 0, .int .i64 0] 98) = W := ⟨_, rfl⟩
  have oW : Only [] w W := by rw [← hW]; exact (((Only.refl [] w).alloc _).alloc _).alloc _
  have bI : Blk W X 25 #[.int .i64 (o), .int .i64 d, .int .i64 a, .int .i64 b, .int .i64 imm] := by rw [← hW, ← hX]; exact ((Blk.new w 25 _).alloc _).alloc _
  have bZ : Blk W (X + 1) 98 (stV p R) := by
    have := (Blk.new (w.alloc (.cells #[.int .i64 (o), .int .i64 d, .int .i64 a, .int .i64 b, .int .i64 imm] 25)) 98 (stV p R)).alloc (.cells #[.int .i64 0, .int .i64 0, .int .i64 0, .int .i64 0, .int .i64 0, .int .i64 0, .int .i64 0, .int .i64 0, .int .i64 0] 98)
    rw [World.size_alloc, hX, hW] at this
    exact this
  have bX : Blk W (X + 1 + 1) 98 #[.int .i64 0, .int .i64 0, .int .i64 0, .int .i64 0, .int .i64 0, .int .i64 0, .int .i64 0, .int .i64 0, .int .i64 0] := by
    have := Blk.new ((w.alloc (.cells #[.int .i64 (o), .int .i64 d, .int .i64 a, .int .i64 b, .int .i64 imm] 25)).alloc (.cells (stV p R) 98)) 98 #[.int .i64 0, .int .i64 0, .int .i64 0, .int .i64 0, .int .i64 0, .int .i64 0, .int .i64 0, .int .i64 0, .int .i64 0]
    rw [World.size_alloc, World.size_alloc, hX, hW] at this
    exact this
  have CI := hide (fun V (ov : Only [] W V) => show V.cell? ⟨X, 0, none⟩ = some (.int .i64 (o)) from (bI.only ov (by simp)).cell 0)
  have DA := hide (fun V => does_any V)
  have HX := hide hX
  have HWX := hide (show X + 3 ≤ W.heap.size by have := bX.lt; omega)
  have OW := hide oW
  have BI := hide bI
  have BZ := hide bZ
  have BX := hide bX
  have LK := hide (fun (V : World) (mb nn : Nat) (h : Mp Tryz.prog 23 V mb (dF 6) nn) => show (Instr.lookup 132 (.map (some mb)) (.int .i64 o) true).run Tryz.prog V = .ok (.tuple #[.nilFunc, .bool false]) V from by
    obtain ⟨l, hl⟩ := key22 o (wf64 o hb0 hb1)
    exact (h.miss keyed22 Tryz.underlying132 (Tryz.zeroValue130 V) hl (dF_none 6 o (by omega))).2)
  have OF := hide (fun W => show Calls Tryz.prog 37 #[.int .i64 o] W fun e w' => (∃ s d a b m c, e = .returned (.tuple #[.agg #[.string s, .bool d, .bool a, .bool b, .int .i64 m], .bool c])) ∧ Only [] W w' from by
    by_cases hq : o < 0 ∨ 8 < o
    · exact (of_bad o hq W).mono fun e w' ⟨h1, h2⟩ => ⟨⟨_, _, _, _, _, _, h1⟩, h2⟩
    · obtain ⟨k, hk⟩ : ∃ k : Nat, o = k := ⟨o.toNat, by omega⟩
      rw [hk]
      exact (of_ok k (by omega) W).mono fun e w' ⟨h1, h2⟩ => ⟨⟨_, _, _, _, _, _, h1⟩, h2⟩)
  skip
  unfold stV at hW
  have HW := hide hW
  clear oW bI bZ bX hX hW
  have hst : stV p R = #[.int .i64 p, .int .i64 (R 0), .int .i64 (R 1), .int .i64 (R 2), .int .i64 (R 3), .int .i64 (R 4), .int .i64 (R 5), .int .i64 (R 6), .int .i64 (R 7)] := rfl
  rw [hst]
  clear hst
  go_enter Tryz.func45, Tryz.ntmps45
  go_wp2_with fail
  rw [HX.out, HW.out]
  refine wp_region_held_drew (S := (fun V => Only [] W V)) (by kernel_rfl) ((Only.refl _ W).drew) (fun hHeld => ?_)
  revert hHeld
  generalize W.drew = u0
  intro hHeld
  obtain ⟨mb, hmb⟩ : ∃ mb, u0.heap.size = mb := ⟨_, rfl⟩
  refine wpAnyH_take (i := 1) (oi := ⟨some 13, _, _, _, _, _⟩) (v := ?vs1_1) rfl (by kernel_rfl) (by kernel_rfl) (by kernel_rfl) (fun _ _ _ h => h) (Or.inl ⟨by rfl, ?hys1_1⟩) (by assumption) ?rests1_1
  case hys1_1 => (intro V hSw; (try dsimp only at hSw); go_simp; first | done | (with_reducible rfl))
  try simp only [Act.put, List.setIfInBounds_toArray, List.set_cons_zero, List.set_cons_succ]
  refine wpAnyH_take (i := 2) (oi := ⟨some 14, _, _, _, _, _⟩) (v := ?vs1_2) rfl (by kernel_rfl) (by kernel_rfl) (by kernel_rfl) (fun _ _ _ h => h) (Or.inl ⟨by rfl, ?hys1_2⟩) (by assumption) ?rests1_2
  case hys1_2 => (intro V hSw; (try dsimp only at hSw); have z := CI.out V hSw; go_simp; first | done | (with_reducible rfl))
  try simp only [Act.put, List.setIfInBounds_toArray, List.set_cons_zero, List.set_cons_succ]
  refine wpAnyH_ready (rs := [0]) (by kernel_rfl) (by simp) ?_
  refine AllReadyH.cons (o := ⟨some 12, _, _, _, _, _⟩) rfl (fun K hK => ?_) (AllReadyH.nil)
  rw [if_pos (by rfl)]
  go_simp
  (with_reducible refine (DA.out _).mono ?_); rintro e u1 ⟨rfl, ⟨nn, MP⟩, o'⟩; rw [hmb] at MP ⊢; have MP := hide MP; have OS := hide ((show Only [] W u0 from hHeld).trans0 o')
  try dsimp only
  refine hK.out _ _ (OS.out) (fun hHeld => ?_)
  clear hK K
  try simp only [Act.put, List.setIfInBounds_toArray, List.set_cons_zero, List.set_cons_succ]
  refine wpAnyH_ready (rs := [3]) (by kernel_rfl) (by simp) ?_
  refine AllReadyH.cons (o := ⟨some 15, _, _, _, _, _⟩) rfl (fun K hK => ?_) (AllReadyH.nil)
  rw [if_pos (by rfl)]
  have z := LK.out _ _ _ MP.out
  go_simp
  try dsimp only
  refine hK.out _ _ ((show Only [] W u1 from hHeld)) (fun hHeld => ?_)
  clear hK K
  try simp only [Act.put, List.setIfInBounds_toArray, List.set_cons_zero, List.set_cons_succ]
  refine wpAnyH_take (i := 4) (oi := ⟨some 11, _, _, _, _, _⟩) (v := ?vs1_3) rfl (by kernel_rfl) (by kernel_rfl) (by kernel_rfl) (fun _ _ _ h => h) (Or.inl ⟨by rfl, ?hys1_3⟩) (by assumption) ?rests1_3
  case hys1_3 => (intro V hSw; (try dsimp only at hSw); go_simp; first | done | (with_reducible rfl))
  try simp only [Act.put, List.setIfInBounds_toArray, List.set_cons_zero, List.set_cons_succ]
  refine wpAnyH_take (i := 5) (oi := ⟨some 16, _, _, _, _, _⟩) (v := ?vs1_4) rfl (by kernel_rfl) (by kernel_rfl) (by kernel_rfl) (fun _ _ _ h => h) (Or.inl ⟨by rfl, ?hys1_4⟩) (by assumption) ?rests1_4
  case hys1_4 => (intro V hSw; (try dsimp only at hSw); go_simp; first | done | (with_reducible rfl))
  try simp only [Act.put, List.setIfInBounds_toArray, List.set_cons_zero, List.set_cons_succ]
  refine wpAnyH_take (i := 6) (oi := ⟨some 17, _, _, _, _, _⟩) (v := ?vs1_5) rfl (by kernel_rfl) (by kernel_rfl) (by kernel_rfl) (fun _ _ _ h => h) (Or.inl ⟨by rfl, ?hys1_5⟩) (by assumption) ?rests1_5
  case hys1_5 => (intro V hSw; (try dsimp only at hSw); go_simp; first | done | (with_reducible rfl))
  try simp only [Act.put, List.setIfInBounds_toArray, List.set_cons_zero, List.set_cons_succ]
  refine wpAnyH_take (i := 7) (oi := ⟨some 6, _, _, _, _, _⟩) (v := ?vs1_6) rfl (by kernel_rfl) (by kernel_rfl) (by kernel_rfl) (fun _ _ _ h => h) (Or.inl ⟨by rfl, ?hys1_6⟩) (by assumption) ?rests1_6
  case hys1_6 => (intro V hSw; (try dsimp only at hSw); go_simp; first | done | (with_reducible rfl))
  try simp only [Act.put, List.setIfInBounds_toArray, List.set_cons_zero, List.set_cons_succ]
  refine wpAnyH_take (i := 8) (oi := ⟨some 7, _, _, _, _, _⟩) (v := ?vs1_7) rfl (by kernel_rfl) (by kernel_rfl) (by kernel_rfl) (fun _ _ _ h => h) (Or.inl ⟨by rfl, ?hys1_7⟩) (by assumption) ?rests1_7
  case hys1_7 => (intro V hSw; (try dsimp only at hSw); go_simp; first | done | (with_reducible rfl))
  try simp only [Act.put, List.setIfInBounds_toArray, List.set_cons_zero, List.set_cons_succ]
  refine wpAnyH_done (by kernel_rfl) ?_ _
  have OS := hide (show Only [] W u1 from hHeld)
  have t0 := (BI.out.only OS.out (by simp)).cell 0
  clear hHeld hmb MP LK DA CI
  go_wp2_with (first
    | (go_at_call 37; (with_reducible refine (OF.out _).mono ?_); rintro e u2 ⟨⟨os, od, oa, ob, om, oc, rfl⟩, o2⟩; have oo := (OS.out.trans0 o2).alloc (.cells #[.string os, .bool od, .bool oa, .bool ob, .int .i64 om] 83); have B3I := BI.out.only oo (by simp); have B3Z := hide (BZ.out.only oo (by simp)); have B3X := hide (BX.out.only oo (by simp)); have O3 := hide (OW.out.trans0 oo); have B3O := Blk.new u2 83 #[.string os, .bool od, .bool oa, .bool ob, .int .i64 om]; have i0 := B3I.cell 0; have i1 := B3I.cell 1; have i2 := B3I.cell 2; have i3 := B3I.cell 3; have i4 := B3I.cell 4; have q1 := B3O.cell 1; have q2 := B3O.cell 2; have q3 := B3O.cell 3; have z0 : (u2.alloc (.cells #[.string os, .bool od, .bool oa, .bool ob, .int .i64 om] 83)).cell? ⟨X + 1, 0, none⟩ = some (.int .i64 p) := B3Z.out.cell 0; have z1 : (u2.alloc (.cells #[.string os, .bool od, .bool oa, .bool ob, .int .i64 om] 83)).cell? ⟨X + 1, 1, none⟩ = some (.int .i64 (R 0)) := B3Z.out.cell 1; have z2 : (u2.alloc (.cells #[.string os, .bool od, .bool oa, .bool ob, .int .i64 om] 83)).cell? ⟨X + 1, 2, none⟩ = some (.int .i64 (R 1)) := B3Z.out.cell 2; have z3 : (u2.alloc (.cells #[.string os, .bool od, .bool oa, .bool ob, .int .i64 om] 83)).cell? ⟨X + 1, 3, none⟩ = some (.int .i64 (R 2)) := B3Z.out.cell 3; have z4 : (u2.alloc (.cells #[.string os, .bool od, .bool oa, .bool ob, .int .i64 om] 83)).cell? ⟨X + 1, 4, none⟩ = some (.int .i64 (R 3)) := B3Z.out.cell 4; have z5 : (u2.alloc (.cells #[.string os, .bool od, .bool oa, .bool ob, .int .i64 om] 83)).cell? ⟨X + 1, 5, none⟩ = some (.int .i64 (R 4)) := B3Z.out.cell 5; have z6 : (u2.alloc (.cells #[.string os, .bool od, .bool oa, .bool ob, .int .i64 om] 83)).cell? ⟨X + 1, 6, none⟩ = some (.int .i64 (R 5)) := B3Z.out.cell 6; have z7 : (u2.alloc (.cells #[.string os, .bool od, .bool oa, .bool ob, .int .i64 om] 83)).cell? ⟨X + 1, 7, none⟩ = some (.int .i64 (R 6)) := B3Z.out.cell 7; have z8 : (u2.alloc (.cells #[.string os, .bool od, .bool oa, .bool ob, .int .i64 om] 83)).cell? ⟨X + 1, 8, none⟩ = some (.int .i64 (R 7)) := B3Z.out.cell 8; have x0 : (u2.alloc (.cells #[.string os, .bool od, .bool oa, .bool ob, .int .i64 om] 83)).cell? ⟨X + 1 + 1, 0, none⟩ = some (.int .i64 0) := B3X.out.cell 0; have y0 := B3X.out.frozen 0; have x1 : (u2.alloc (.cells #[.string os, .bool od, .bool oa, .bool ob, .int .i64 om] 83)).cell? ⟨X + 1 + 1, 1, none⟩ = some (.int .i64 0) := B3X.out.cell 1; have y1 := B3X.out.frozen 1; have x2 : (u2.alloc (.cells #[.string os, .bool od, .bool oa, .bool ob, .int .i64 om] 83)).cell? ⟨X + 1 + 1, 2, none⟩ = some (.int .i64 0) := B3X.out.cell 2; have y2 := B3X.out.frozen 2; have x3 : (u2.alloc (.cells #[.string os, .bool od, .bool oa, .bool ob, .int .i64 om] 83)).cell? ⟨X + 1 + 1, 3, none⟩ = some (.int .i64 0) := B3X.out.cell 3; have y3 := B3X.out.frozen 3; have x4 : (u2.alloc (.cells #[.string os, .bool od, .bool oa, .bool ob, .int .i64 om] 83)).cell? ⟨X + 1 + 1, 4, none⟩ = some (.int .i64 0) := B3X.out.cell 4; have y4 := B3X.out.frozen 4; have x5 : (u2.alloc (.cells #[.string os, .bool od, .bool oa, .bool ob, .int .i64 om] 83)).cell? ⟨X + 1 + 1, 5, none⟩ = some (.int .i64 0) := B3X.out.cell 5; have y5 := B3X.out.frozen 5; have x6 : (u2.alloc (.cells #[.string os, .bool od, .bool oa, .bool ob, .int .i64 om] 83)).cell? ⟨X + 1 + 1, 6, none⟩ = some (.int .i64 0) := B3X.out.cell 6; have y6 := B3X.out.frozen 6; have x7 : (u2.alloc (.cells #[.string os, .bool od, .bool oa, .bool ob, .int .i64 om] 83)).cell? ⟨X + 1 + 1, 7, none⟩ = some (.int .i64 0) := B3X.out.cell 7; have y7 := B3X.out.frozen 7; have x8 : (u2.alloc (.cells #[.string os, .bool od, .bool oa, .bool ob, .int .i64 om] 83)).cell? ⟨X + 1 + 1, 8, none⟩ = some (.int .i64 0) := B3X.out.cell 8; have y8 := B3X.out.frozen 8; clear oo o2 B3I B3O))
  rw [PGF.out]
  have BFF := (((((((((B3X.out).set_ 0 (.int .i64 p)).set_ 1 (.int .i64 (R 0))).set_ 2 (.int .i64 (R 1))).set_ 3 (.int .i64 (R 2))).set_ 4 (.int .i64 (R 3))).set_ 5 (.int .i64 (R 4))).set_ 6 (.int .i64 (R 5))).set_ 7 (.int .i64 (R 6))).set_ 8 (.int .i64 (R 7))
  refine bodyPost_ret (v := .tuple #[.agg (stV p (R)), .bool false]) (results_cell2b Tryz.results45 rfl rfl (load39 (p := p) (R := R) (by simpa [stV] using BFF))) rfl ⟨rfl, ?_⟩
  exact (((((((((((O3.out.mono (T := [X + 1 + 1]) (by simp))).setCell (p := ⟨X + 1 + 1, 0, none⟩) (.inl (by simp)) _).setCell (p := ⟨X + 1 + 1, 1, none⟩) (.inl (by simp)) _).setCell (p := ⟨X + 1 + 1, 2, none⟩) (.inl (by simp)) _).setCell (p := ⟨X + 1 + 1, 3, none⟩) (.inl (by simp)) _).setCell (p := ⟨X + 1 + 1, 4, none⟩) (.inl (by simp)) _).setCell (p := ⟨X + 1 + 1, 5, none⟩) (.inl (by simp)) _).setCell (p := ⟨X + 1 + 1, 6, none⟩) (.inl (by simp)) _).setCell (p := ⟨X + 1 + 1, 7, none⟩) (.inl (by simp)) _).setCell (p := ⟨X + 1 + 1, 8, none⟩) (.inl (by simp)) _).mono (fun x hx => .inr (by have := HX.out; simp at hx; omega))
set_option maxHeartbeats 8000000 in
theorem step1_badd (d : Int) (hd : d < 0 ∨ 7 < d) (a : Int) (b : Int) (imm p : Int) (R : Nat → Int) (w : World) : Calls Tryz.prog 45 #[.agg #[.int .i64 (1), .int .i64 d, .int .i64 a, .int .i64 b, .int .i64 imm], .agg (stV p R)] w fun e w' => e = .returned (stepV ⟨1, d, a, b, imm⟩ p R) ∧ Only [] w w' := by
  have PGF := hide (show stepV ⟨1, d, a, b, imm⟩ p R = .tuple #[.agg (stV p R), .bool false] from by
    have h1 : stepOk ⟨1, d, a, b, imm⟩ = false := by
      rw [Bool.eq_false_iff]
      unfold stepOk inReg
      simp [shp]
      omega
    unfold stepV
    rw [h1]
    rfl)
  obtain ⟨X, hX⟩ : ∃ X, w.heap.size = X := ⟨_, rfl⟩
  obtain ⟨W, hW⟩ : ∃ W, ((w.alloc (.cells #[.int .i64 (1), .int .i64 d, .int .i64 a, .int .i64 b, .int .i64 imm] 25)).alloc (.cells (stV p R) 98)).alloc (.cells #[.int .i64 0, .int .i64 0, .int .i64 0, .int .i64 0, .int .i64 0, .int .i64 0, .int .i64 0, .int .i64 0, .int .i64 0] 98) = W := ⟨_, rfl⟩
  have oW : Only [] w W := by rw [← hW]; exact (((Only.refl [] w).alloc _).alloc _).alloc _
  have bI : Blk W X 25 #[.int .i64 (1), .int .i64 d, .int .i64 a, .int .i64 b, .int .i64 imm] := by rw [← hW, ← hX]; exact ((Blk.new w 25 _).alloc _).alloc _
  have bZ : Blk W (X + 1) 98 (stV p R) := by
    have := (Blk.new (w.alloc (.cells #[.int .i64 (1), .int .i64 d, .int .i64 a, .int .i64 b, .int .i64 imm] 25)) 98 (stV p R)).alloc (.cells #[.int .i64 0, .int .i64 0, .int .i64 0, .int .i64 0, .int .i64 0, .int .i64 0, .int .i64 0, .int .i64 0, .int .i64 0] 98)
    rw [World.size_alloc, hX, hW] at this
    exact this
  have bX : Blk W (X + 1 + 1) 98 #[.int .i64 0, .int .i64 0, .int .i64 0, .int .i64 0, .int .i64 0, .int .i64 0, .int .i64 0, .int .i64 0, .int .i64 0] := by
    have := Blk.new ((w.alloc (.cells #[.int .i64 (1), .int .i64 d, .int .i64 a, .int .i64 b, .int .i64 imm] 25)).alloc (.cells (stV p R) 98)) 98 #[.int .i64 0, .int .i64 0, .int .i64 0, .int .i64 0, .int .i64 0, .int .i64 0, .int .i64 0, .int .i64 0, .int .i64 0]
    rw [World.size_alloc, World.size_alloc, hX, hW] at this
    exact this
  have CI := hide (fun V (ov : Only [] W V) => show V.cell? ⟨X, 0, none⟩ = some (.int .i64 (1)) from (bI.only ov (by simp)).cell 0)
  have DA := hide (fun V => does_any V)
  have HX := hide hX
  have HWX := hide (show X + 3 ≤ W.heap.size by have := bX.lt; omega)
  have OW := hide oW
  have BI := hide bI
  have BZ := hide bZ
  have BX := hide bX
  have LK := hide (fun (V : World) (mb nn : Nat) (h : Mp Tryz.prog 23 V mb (dF 6) nn) => show (Instr.lookup 132 (.map (some mb)) (.int .i64 1) true).run Tryz.prog V = .ok (.tuple #[.func (.func 99) #[] #[], .bool true]) V from by
    obtain ⟨l, hl⟩ := key22 1 (by decide)
    exact (h.look keyed22 Tryz.underlying132 hl (dF_some 6 1 (by omega) (by omega))).2)
  obtain ⟨nm, hnm⟩ : ∃ nm, ByteArray.mk (nmB 1).toArray = nm := ⟨_, rfl⟩
  have OF := hide (fun W => show Calls Tryz.prog 37 #[.int .i64 1] W fun e w' => e = .returned (.tuple #[.agg #[.string nm, .bool true, .bool false, .bool false, .int .i64 1], .bool true]) ∧ Only [] W w' from by rw [← hnm]; exact of_ok 1 (by decide) W)
  have INd := hide (fun W => show Calls Tryz.prog 82 #[.int .i64 d] W fun e w' => e = .returned (.bool false) ∧ w' = W from (inOk_any d W).mono fun e w' ⟨h1, h2⟩ => ⟨by rw [h1]; rcases hd with h | h; (rw [decide_eq_false (show ¬ 0 ≤ d by omega)]; rfl); (rw [decide_eq_false (show ¬ d ≤ 7 by omega), Bool.and_false]), h2⟩)
  skip
  unfold stV at hW
  have HW := hide hW
  clear oW bI bZ bX hX hW
  have hst : stV p R = #[.int .i64 p, .int .i64 (R 0), .int .i64 (R 1), .int .i64 (R 2), .int .i64 (R 3), .int .i64 (R 4), .int .i64 (R 5), .int .i64 (R 6), .int .i64 (R 7)] := rfl
  rw [hst]
  clear hst
  go_enter Tryz.func45, Tryz.ntmps45
  go_wp2_with fail
  rw [HX.out, HW.out]
  refine wp_region_held_drew (S := (fun V => Only [] W V)) (by kernel_rfl) ((Only.refl _ W).drew) (fun hHeld => ?_)
  revert hHeld
  generalize W.drew = u0
  intro hHeld
  obtain ⟨mb, hmb⟩ : ∃ mb, u0.heap.size = mb := ⟨_, rfl⟩
  refine wpAnyH_take (i := 1) (oi := ⟨some 13, _, _, _, _, _⟩) (v := ?vs2_1) rfl (by kernel_rfl) (by kernel_rfl) (by kernel_rfl) (fun _ _ _ h => h) (Or.inl ⟨by rfl, ?hys2_1⟩) (by assumption) ?rests2_1
  case hys2_1 => (intro V hSw; (try dsimp only at hSw); go_simp; first | done | (with_reducible rfl))
  try simp only [Act.put, List.setIfInBounds_toArray, List.set_cons_zero, List.set_cons_succ]
  refine wpAnyH_take (i := 2) (oi := ⟨some 14, _, _, _, _, _⟩) (v := ?vs2_2) rfl (by kernel_rfl) (by kernel_rfl) (by kernel_rfl) (fun _ _ _ h => h) (Or.inl ⟨by rfl, ?hys2_2⟩) (by assumption) ?rests2_2
  case hys2_2 => (intro V hSw; (try dsimp only at hSw); have z := CI.out V hSw; go_simp; first | done | (with_reducible rfl))
  try simp only [Act.put, List.setIfInBounds_toArray, List.set_cons_zero, List.set_cons_succ]
  refine wpAnyH_ready (rs := [0]) (by kernel_rfl) (by simp) ?_
  refine AllReadyH.cons (o := ⟨some 12, _, _, _, _, _⟩) rfl (fun K hK => ?_) (AllReadyH.nil)
  rw [if_pos (by rfl)]
  go_simp
  (with_reducible refine (DA.out _).mono ?_); rintro e u1 ⟨rfl, ⟨nn, MP⟩, o'⟩; rw [hmb] at MP ⊢; have MP := hide MP; have OS := hide ((show Only [] W u0 from hHeld).trans0 o')
  try dsimp only
  refine hK.out _ _ (OS.out) (fun hHeld => ?_)
  clear hK K
  try simp only [Act.put, List.setIfInBounds_toArray, List.set_cons_zero, List.set_cons_succ]
  refine wpAnyH_ready (rs := [3]) (by kernel_rfl) (by simp) ?_
  refine AllReadyH.cons (o := ⟨some 15, _, _, _, _, _⟩) rfl (fun K hK => ?_) (AllReadyH.nil)
  rw [if_pos (by rfl)]
  have z := LK.out _ _ _ MP.out
  go_simp
  try dsimp only
  refine hK.out _ _ ((show Only [] W u1 from hHeld)) (fun hHeld => ?_)
  clear hK K
  try simp only [Act.put, List.setIfInBounds_toArray, List.set_cons_zero, List.set_cons_succ]
  refine wpAnyH_take (i := 4) (oi := ⟨some 11, _, _, _, _, _⟩) (v := ?vs2_3) rfl (by kernel_rfl) (by kernel_rfl) (by kernel_rfl) (fun _ _ _ h => h) (Or.inl ⟨by rfl, ?hys2_3⟩) (by assumption) ?rests2_3
  case hys2_3 => (intro V hSw; (try dsimp only at hSw); go_simp; first | done | (with_reducible rfl))
  try simp only [Act.put, List.setIfInBounds_toArray, List.set_cons_zero, List.set_cons_succ]
  refine wpAnyH_take (i := 5) (oi := ⟨some 16, _, _, _, _, _⟩) (v := ?vs2_4) rfl (by kernel_rfl) (by kernel_rfl) (by kernel_rfl) (fun _ _ _ h => h) (Or.inl ⟨by rfl, ?hys2_4⟩) (by assumption) ?rests2_4
  case hys2_4 => (intro V hSw; (try dsimp only at hSw); go_simp; first | done | (with_reducible rfl))
  try simp only [Act.put, List.setIfInBounds_toArray, List.set_cons_zero, List.set_cons_succ]
  refine wpAnyH_take (i := 6) (oi := ⟨some 17, _, _, _, _, _⟩) (v := ?vs2_5) rfl (by kernel_rfl) (by kernel_rfl) (by kernel_rfl) (fun _ _ _ h => h) (Or.inl ⟨by rfl, ?hys2_5⟩) (by assumption) ?rests2_5
  case hys2_5 => (intro V hSw; (try dsimp only at hSw); go_simp; first | done | (with_reducible rfl))
  try simp only [Act.put, List.setIfInBounds_toArray, List.set_cons_zero, List.set_cons_succ]
  refine wpAnyH_take (i := 7) (oi := ⟨some 6, _, _, _, _, _⟩) (v := ?vs2_6) rfl (by kernel_rfl) (by kernel_rfl) (by kernel_rfl) (fun _ _ _ h => h) (Or.inl ⟨by rfl, ?hys2_6⟩) (by assumption) ?rests2_6
  case hys2_6 => (intro V hSw; (try dsimp only at hSw); go_simp; first | done | (with_reducible rfl))
  try simp only [Act.put, List.setIfInBounds_toArray, List.set_cons_zero, List.set_cons_succ]
  refine wpAnyH_take (i := 8) (oi := ⟨some 7, _, _, _, _, _⟩) (v := ?vs2_7) rfl (by kernel_rfl) (by kernel_rfl) (by kernel_rfl) (fun _ _ _ h => h) (Or.inl ⟨by rfl, ?hys2_7⟩) (by assumption) ?rests2_7
  case hys2_7 => (intro V hSw; (try dsimp only at hSw); go_simp; first | done | (with_reducible rfl))
  try simp only [Act.put, List.setIfInBounds_toArray, List.set_cons_zero, List.set_cons_succ]
  refine wpAnyH_done (by kernel_rfl) ?_ _
  have OS := hide (show Only [] W u1 from hHeld)
  have t0 := (BI.out.only OS.out (by simp)).cell 0
  clear hHeld hmb MP LK DA CI
  go_wp2_with (first
    | (go_at_call 37; (with_reducible refine (OF.out _).mono ?_); rintro e u2 ⟨rfl, o2⟩; have oo := (OS.out.trans0 o2).alloc (.cells #[.string nm, .bool true, .bool false, .bool false, .int .i64 1] 83); have B3I := BI.out.only oo (by simp); have B3Z := hide (BZ.out.only oo (by simp)); have B3X := hide (BX.out.only oo (by simp)); have O3 := hide (OW.out.trans0 oo); have B3O := Blk.new u2 83 #[.string nm, .bool true, .bool false, .bool false, .int .i64 1]; have i0 := B3I.cell 0; have i1 := B3I.cell 1; have i2 := B3I.cell 2; have i3 := B3I.cell 3; have i4 := B3I.cell 4; have q1 := B3O.cell 1; have q2 := B3O.cell 2; have q3 := B3O.cell 3; have z0 : (u2.alloc (.cells #[.string nm, .bool true, .bool false, .bool false, .int .i64 1] 83)).cell? ⟨X + 1, 0, none⟩ = some (.int .i64 p) := B3Z.out.cell 0; have z1 : (u2.alloc (.cells #[.string nm, .bool true, .bool false, .bool false, .int .i64 1] 83)).cell? ⟨X + 1, 1, none⟩ = some (.int .i64 (R 0)) := B3Z.out.cell 1; have z2 : (u2.alloc (.cells #[.string nm, .bool true, .bool false, .bool false, .int .i64 1] 83)).cell? ⟨X + 1, 2, none⟩ = some (.int .i64 (R 1)) := B3Z.out.cell 2; have z3 : (u2.alloc (.cells #[.string nm, .bool true, .bool false, .bool false, .int .i64 1] 83)).cell? ⟨X + 1, 3, none⟩ = some (.int .i64 (R 2)) := B3Z.out.cell 3; have z4 : (u2.alloc (.cells #[.string nm, .bool true, .bool false, .bool false, .int .i64 1] 83)).cell? ⟨X + 1, 4, none⟩ = some (.int .i64 (R 3)) := B3Z.out.cell 4; have z5 : (u2.alloc (.cells #[.string nm, .bool true, .bool false, .bool false, .int .i64 1] 83)).cell? ⟨X + 1, 5, none⟩ = some (.int .i64 (R 4)) := B3Z.out.cell 5; have z6 : (u2.alloc (.cells #[.string nm, .bool true, .bool false, .bool false, .int .i64 1] 83)).cell? ⟨X + 1, 6, none⟩ = some (.int .i64 (R 5)) := B3Z.out.cell 6; have z7 : (u2.alloc (.cells #[.string nm, .bool true, .bool false, .bool false, .int .i64 1] 83)).cell? ⟨X + 1, 7, none⟩ = some (.int .i64 (R 6)) := B3Z.out.cell 7; have z8 : (u2.alloc (.cells #[.string nm, .bool true, .bool false, .bool false, .int .i64 1] 83)).cell? ⟨X + 1, 8, none⟩ = some (.int .i64 (R 7)) := B3Z.out.cell 8; have x0 : (u2.alloc (.cells #[.string nm, .bool true, .bool false, .bool false, .int .i64 1] 83)).cell? ⟨X + 1 + 1, 0, none⟩ = some (.int .i64 0) := B3X.out.cell 0; have y0 := B3X.out.frozen 0; have x1 : (u2.alloc (.cells #[.string nm, .bool true, .bool false, .bool false, .int .i64 1] 83)).cell? ⟨X + 1 + 1, 1, none⟩ = some (.int .i64 0) := B3X.out.cell 1; have y1 := B3X.out.frozen 1; have x2 : (u2.alloc (.cells #[.string nm, .bool true, .bool false, .bool false, .int .i64 1] 83)).cell? ⟨X + 1 + 1, 2, none⟩ = some (.int .i64 0) := B3X.out.cell 2; have y2 := B3X.out.frozen 2; have x3 : (u2.alloc (.cells #[.string nm, .bool true, .bool false, .bool false, .int .i64 1] 83)).cell? ⟨X + 1 + 1, 3, none⟩ = some (.int .i64 0) := B3X.out.cell 3; have y3 := B3X.out.frozen 3; have x4 : (u2.alloc (.cells #[.string nm, .bool true, .bool false, .bool false, .int .i64 1] 83)).cell? ⟨X + 1 + 1, 4, none⟩ = some (.int .i64 0) := B3X.out.cell 4; have y4 := B3X.out.frozen 4; have x5 : (u2.alloc (.cells #[.string nm, .bool true, .bool false, .bool false, .int .i64 1] 83)).cell? ⟨X + 1 + 1, 5, none⟩ = some (.int .i64 0) := B3X.out.cell 5; have y5 := B3X.out.frozen 5; have x6 : (u2.alloc (.cells #[.string nm, .bool true, .bool false, .bool false, .int .i64 1] 83)).cell? ⟨X + 1 + 1, 6, none⟩ = some (.int .i64 0) := B3X.out.cell 6; have y6 := B3X.out.frozen 6; have x7 : (u2.alloc (.cells #[.string nm, .bool true, .bool false, .bool false, .int .i64 1] 83)).cell? ⟨X + 1 + 1, 7, none⟩ = some (.int .i64 0) := B3X.out.cell 7; have y7 := B3X.out.frozen 7; have x8 : (u2.alloc (.cells #[.string nm, .bool true, .bool false, .bool false, .int .i64 1] 83)).cell? ⟨X + 1 + 1, 8, none⟩ = some (.int .i64 0) := B3X.out.cell 8; have y8 := B3X.out.frozen 8; clear oo o2 B3I B3O)
    | (go_at_call 82; (with_reducible refine (INd.out _).mono ?_); rintro e w' ⟨rfl, hw⟩; obtain rfl := hw.symm; clear hw))
  rw [PGF.out]
  have BFF := (((((((((B3X.out).set_ 0 (.int .i64 p)).set_ 1 (.int .i64 (R 0))).set_ 2 (.int .i64 (R 1))).set_ 3 (.int .i64 (R 2))).set_ 4 (.int .i64 (R 3))).set_ 5 (.int .i64 (R 4))).set_ 6 (.int .i64 (R 5))).set_ 7 (.int .i64 (R 6))).set_ 8 (.int .i64 (R 7))
  refine bodyPost_ret (v := .tuple #[.agg (stV p (R)), .bool false]) (results_cell2b Tryz.results45 rfl rfl (load39 (p := p) (R := R) (by simpa [stV] using BFF))) rfl ⟨rfl, ?_⟩
  exact (((((((((((O3.out.mono (T := [X + 1 + 1]) (by simp))).setCell (p := ⟨X + 1 + 1, 0, none⟩) (.inl (by simp)) _).setCell (p := ⟨X + 1 + 1, 1, none⟩) (.inl (by simp)) _).setCell (p := ⟨X + 1 + 1, 2, none⟩) (.inl (by simp)) _).setCell (p := ⟨X + 1 + 1, 3, none⟩) (.inl (by simp)) _).setCell (p := ⟨X + 1 + 1, 4, none⟩) (.inl (by simp)) _).setCell (p := ⟨X + 1 + 1, 5, none⟩) (.inl (by simp)) _).setCell (p := ⟨X + 1 + 1, 6, none⟩) (.inl (by simp)) _).setCell (p := ⟨X + 1 + 1, 7, none⟩) (.inl (by simp)) _).setCell (p := ⟨X + 1 + 1, 8, none⟩) (.inl (by simp)) _).mono (fun x hx => .inr (by have := HX.out; simp at hx; omega))
set_option maxHeartbeats 8000000 in
theorem step1_ok (d : Nat) (hd : d < 8) (a : Int) (b : Int) (imm p : Int) (R : Nat → Int) (w : World) : Calls Tryz.prog 45 #[.agg #[.int .i64 (1), .int .i64 ((d : Nat) : Int), .int .i64 a, .int .i64 b, .int .i64 imm], .agg (stV p R)] w fun e w' => e = .returned (stepV ⟨1, ((d : Nat) : Int), a, b, imm⟩ p R) ∧ Only [] w w' := by
  have PGF := hide (show stepV ⟨1, ((d : Nat) : Int), a, b, imm⟩ p R = .tuple #[.agg (stV (IntKind.i64.wrap (p + 1)) (upR R d imm)), .bool true] from by
    have h1 : stepOk ⟨1, ((d : Nat) : Int), a, b, imm⟩ = true := by unfold stepOk inReg; simp [shp] <;> omega
    have h2 : stepPC ⟨1, ((d : Nat) : Int), a, b, imm⟩ p R = (IntKind.i64.wrap (p + 1)) := by unfold stepPC; simp
    have h3 : stepR ⟨1, ((d : Nat) : Int), a, b, imm⟩ R = (upR R d imm) := by unfold stepR; simp
    unfold stepV
    rw [h1, h2, h3]
    rfl)
  obtain ⟨X, hX⟩ : ∃ X, w.heap.size = X := ⟨_, rfl⟩
  obtain ⟨W, hW⟩ : ∃ W, ((w.alloc (.cells #[.int .i64 (1), .int .i64 ((d : Nat) : Int), .int .i64 a, .int .i64 b, .int .i64 imm] 25)).alloc (.cells (stV p R) 98)).alloc (.cells #[.int .i64 0, .int .i64 0, .int .i64 0, .int .i64 0, .int .i64 0, .int .i64 0, .int .i64 0, .int .i64 0, .int .i64 0] 98) = W := ⟨_, rfl⟩
  have oW : Only [] w W := by rw [← hW]; exact (((Only.refl [] w).alloc _).alloc _).alloc _
  have bI : Blk W X 25 #[.int .i64 (1), .int .i64 ((d : Nat) : Int), .int .i64 a, .int .i64 b, .int .i64 imm] := by rw [← hW, ← hX]; exact ((Blk.new w 25 _).alloc _).alloc _
  have bZ : Blk W (X + 1) 98 (stV p R) := by
    have := (Blk.new (w.alloc (.cells #[.int .i64 (1), .int .i64 ((d : Nat) : Int), .int .i64 a, .int .i64 b, .int .i64 imm] 25)) 98 (stV p R)).alloc (.cells #[.int .i64 0, .int .i64 0, .int .i64 0, .int .i64 0, .int .i64 0, .int .i64 0, .int .i64 0, .int .i64 0, .int .i64 0] 98)
    rw [World.size_alloc, hX, hW] at this
    exact this
  have bX : Blk W (X + 1 + 1) 98 #[.int .i64 0, .int .i64 0, .int .i64 0, .int .i64 0, .int .i64 0, .int .i64 0, .int .i64 0, .int .i64 0, .int .i64 0] := by
    have := Blk.new ((w.alloc (.cells #[.int .i64 (1), .int .i64 ((d : Nat) : Int), .int .i64 a, .int .i64 b, .int .i64 imm] 25)).alloc (.cells (stV p R) 98)) 98 #[.int .i64 0, .int .i64 0, .int .i64 0, .int .i64 0, .int .i64 0, .int .i64 0, .int .i64 0, .int .i64 0, .int .i64 0]
    rw [World.size_alloc, World.size_alloc, hX, hW] at this
    exact this
  have CI := hide (fun V (ov : Only [] W V) => show V.cell? ⟨X, 0, none⟩ = some (.int .i64 (1)) from (bI.only ov (by simp)).cell 0)
  have DA := hide (fun V => does_any V)
  have HX := hide hX
  have HWX := hide (show X + 3 ≤ W.heap.size by have := bX.lt; omega)
  have OW := hide oW
  have BI := hide bI
  have BZ := hide bZ
  have BX := hide bX
  have LK := hide (fun (V : World) (mb nn : Nat) (h : Mp Tryz.prog 23 V mb (dF 6) nn) => show (Instr.lookup 132 (.map (some mb)) (.int .i64 1) true).run Tryz.prog V = .ok (.tuple #[.func (.func 99) #[] #[], .bool true]) V from by
    obtain ⟨l, hl⟩ := key22 1 (by decide)
    exact (h.look keyed22 Tryz.underlying132 hl (dF_some 6 1 (by omega) (by omega))).2)
  obtain ⟨nm, hnm⟩ : ∃ nm, ByteArray.mk (nmB 1).toArray = nm := ⟨_, rfl⟩
  have OF := hide (fun W => show Calls Tryz.prog 37 #[.int .i64 1] W fun e w' => e = .returned (.tuple #[.agg #[.string nm, .bool true, .bool false, .bool false, .int .i64 1], .bool true]) ∧ Only [] W w' from by rw [← hnm]; exact of_ok 1 (by decide) W)
  have INd := hide (fun W => show Calls Tryz.prog 82 #[.int .i64 ((d : Nat) : Int)] W fun e w' => e = .returned (.bool true) ∧ w' = W from (inOk_any ((d : Nat) : Int) W).mono fun e w' ⟨h1, h2⟩ => ⟨by rw [h1, decide_eq_true (show (0 : Int) ≤ d by omega), decide_eq_true (show (d : Int) ≤ 7 by omega)]; rfl, h2⟩)
  have e1 : ∃ pw, IntKind.i64.wrap (p + 1) = pw := ⟨_, rfl⟩
  obtain ⟨pw, hpw⟩ := e1
  have PGF := PGF.out
  rw [hpw] at PGF
  obtain ⟨R2, hR2⟩ : ∃ R2, (upR R d imm) = R2 := ⟨_, rfl⟩
  obtain ⟨p2, hp2⟩ : ∃ p2, pw = p2 := ⟨_, rfl⟩
  rw [hR2, hp2] at PGF
  have HR2 := hide hR2
  clear hR2
  have HP2 := hide hp2
  clear hp2
  have PGF := hide PGF
  unfold stV at hW
  have HW := hide hW
  clear oW bI bZ bX hX hW
  have hst : stV p R = #[.int .i64 p, .int .i64 (R 0), .int .i64 (R 1), .int .i64 (R 2), .int .i64 (R 3), .int .i64 (R 4), .int .i64 (R 5), .int .i64 (R 6), .int .i64 (R 7)] := rfl
  rw [hst]
  clear hst
  go_enter Tryz.func45, Tryz.ntmps45
  go_wp2_with fail
  rw [HX.out, HW.out]
  refine wp_region_held_drew (S := (fun V => Only [] W V)) (by kernel_rfl) ((Only.refl _ W).drew) (fun hHeld => ?_)
  revert hHeld
  generalize W.drew = u0
  intro hHeld
  obtain ⟨mb, hmb⟩ : ∃ mb, u0.heap.size = mb := ⟨_, rfl⟩
  refine wpAnyH_take (i := 1) (oi := ⟨some 13, _, _, _, _, _⟩) (v := ?vs3_1) rfl (by kernel_rfl) (by kernel_rfl) (by kernel_rfl) (fun _ _ _ h => h) (Or.inl ⟨by rfl, ?hys3_1⟩) (by assumption) ?rests3_1
  case hys3_1 => (intro V hSw; (try dsimp only at hSw); go_simp; first | done | (with_reducible rfl))
  try simp only [Act.put, List.setIfInBounds_toArray, List.set_cons_zero, List.set_cons_succ]
  refine wpAnyH_take (i := 2) (oi := ⟨some 14, _, _, _, _, _⟩) (v := ?vs3_2) rfl (by kernel_rfl) (by kernel_rfl) (by kernel_rfl) (fun _ _ _ h => h) (Or.inl ⟨by rfl, ?hys3_2⟩) (by assumption) ?rests3_2
  case hys3_2 => (intro V hSw; (try dsimp only at hSw); have z := CI.out V hSw; go_simp; first | done | (with_reducible rfl))
  try simp only [Act.put, List.setIfInBounds_toArray, List.set_cons_zero, List.set_cons_succ]
  refine wpAnyH_ready (rs := [0]) (by kernel_rfl) (by simp) ?_
  refine AllReadyH.cons (o := ⟨some 12, _, _, _, _, _⟩) rfl (fun K hK => ?_) (AllReadyH.nil)
  rw [if_pos (by rfl)]
  go_simp
  (with_reducible refine (DA.out _).mono ?_); rintro e u1 ⟨rfl, ⟨nn, MP⟩, o'⟩; rw [hmb] at MP ⊢; have MP := hide MP; have OS := hide ((show Only [] W u0 from hHeld).trans0 o')
  try dsimp only
  refine hK.out _ _ (OS.out) (fun hHeld => ?_)
  clear hK K
  try simp only [Act.put, List.setIfInBounds_toArray, List.set_cons_zero, List.set_cons_succ]
  refine wpAnyH_ready (rs := [3]) (by kernel_rfl) (by simp) ?_
  refine AllReadyH.cons (o := ⟨some 15, _, _, _, _, _⟩) rfl (fun K hK => ?_) (AllReadyH.nil)
  rw [if_pos (by rfl)]
  have z := LK.out _ _ _ MP.out
  go_simp
  try dsimp only
  refine hK.out _ _ ((show Only [] W u1 from hHeld)) (fun hHeld => ?_)
  clear hK K
  try simp only [Act.put, List.setIfInBounds_toArray, List.set_cons_zero, List.set_cons_succ]
  refine wpAnyH_take (i := 4) (oi := ⟨some 11, _, _, _, _, _⟩) (v := ?vs3_3) rfl (by kernel_rfl) (by kernel_rfl) (by kernel_rfl) (fun _ _ _ h => h) (Or.inl ⟨by rfl, ?hys3_3⟩) (by assumption) ?rests3_3
  case hys3_3 => (intro V hSw; (try dsimp only at hSw); go_simp; first | done | (with_reducible rfl))
  try simp only [Act.put, List.setIfInBounds_toArray, List.set_cons_zero, List.set_cons_succ]
  refine wpAnyH_take (i := 5) (oi := ⟨some 16, _, _, _, _, _⟩) (v := ?vs3_4) rfl (by kernel_rfl) (by kernel_rfl) (by kernel_rfl) (fun _ _ _ h => h) (Or.inl ⟨by rfl, ?hys3_4⟩) (by assumption) ?rests3_4
  case hys3_4 => (intro V hSw; (try dsimp only at hSw); go_simp; first | done | (with_reducible rfl))
  try simp only [Act.put, List.setIfInBounds_toArray, List.set_cons_zero, List.set_cons_succ]
  refine wpAnyH_take (i := 6) (oi := ⟨some 17, _, _, _, _, _⟩) (v := ?vs3_5) rfl (by kernel_rfl) (by kernel_rfl) (by kernel_rfl) (fun _ _ _ h => h) (Or.inl ⟨by rfl, ?hys3_5⟩) (by assumption) ?rests3_5
  case hys3_5 => (intro V hSw; (try dsimp only at hSw); go_simp; first | done | (with_reducible rfl))
  try simp only [Act.put, List.setIfInBounds_toArray, List.set_cons_zero, List.set_cons_succ]
  refine wpAnyH_take (i := 7) (oi := ⟨some 6, _, _, _, _, _⟩) (v := ?vs3_6) rfl (by kernel_rfl) (by kernel_rfl) (by kernel_rfl) (fun _ _ _ h => h) (Or.inl ⟨by rfl, ?hys3_6⟩) (by assumption) ?rests3_6
  case hys3_6 => (intro V hSw; (try dsimp only at hSw); go_simp; first | done | (with_reducible rfl))
  try simp only [Act.put, List.setIfInBounds_toArray, List.set_cons_zero, List.set_cons_succ]
  refine wpAnyH_take (i := 8) (oi := ⟨some 7, _, _, _, _, _⟩) (v := ?vs3_7) rfl (by kernel_rfl) (by kernel_rfl) (by kernel_rfl) (fun _ _ _ h => h) (Or.inl ⟨by rfl, ?hys3_7⟩) (by assumption) ?rests3_7
  case hys3_7 => (intro V hSw; (try dsimp only at hSw); go_simp; first | done | (with_reducible rfl))
  try simp only [Act.put, List.setIfInBounds_toArray, List.set_cons_zero, List.set_cons_succ]
  refine wpAnyH_done (by kernel_rfl) ?_ _
  have OS := hide (show Only [] W u1 from hHeld)
  have t0 := (BI.out.only OS.out (by simp)).cell 0
  clear hHeld hmb MP LK DA CI
  go_wp2_with (first
    | (go_at_call 37; (with_reducible refine (OF.out _).mono ?_); rintro e u2 ⟨rfl, o2⟩; have oo := (OS.out.trans0 o2).alloc (.cells #[.string nm, .bool true, .bool false, .bool false, .int .i64 1] 83); have B3I := BI.out.only oo (by simp); have B3Z := hide (BZ.out.only oo (by simp)); have B3X := hide (BX.out.only oo (by simp)); have O3 := hide (OW.out.trans0 oo); have B3O := Blk.new u2 83 #[.string nm, .bool true, .bool false, .bool false, .int .i64 1]; have i0 := B3I.cell 0; have i1 := B3I.cell 1; have i2 := B3I.cell 2; have i3 := B3I.cell 3; have i4 := B3I.cell 4; have q1 := B3O.cell 1; have q2 := B3O.cell 2; have q3 := B3O.cell 3; have z0 : (u2.alloc (.cells #[.string nm, .bool true, .bool false, .bool false, .int .i64 1] 83)).cell? ⟨X + 1, 0, none⟩ = some (.int .i64 p) := B3Z.out.cell 0; have z1 : (u2.alloc (.cells #[.string nm, .bool true, .bool false, .bool false, .int .i64 1] 83)).cell? ⟨X + 1, 1, none⟩ = some (.int .i64 (R 0)) := B3Z.out.cell 1; have z2 : (u2.alloc (.cells #[.string nm, .bool true, .bool false, .bool false, .int .i64 1] 83)).cell? ⟨X + 1, 2, none⟩ = some (.int .i64 (R 1)) := B3Z.out.cell 2; have z3 : (u2.alloc (.cells #[.string nm, .bool true, .bool false, .bool false, .int .i64 1] 83)).cell? ⟨X + 1, 3, none⟩ = some (.int .i64 (R 2)) := B3Z.out.cell 3; have z4 : (u2.alloc (.cells #[.string nm, .bool true, .bool false, .bool false, .int .i64 1] 83)).cell? ⟨X + 1, 4, none⟩ = some (.int .i64 (R 3)) := B3Z.out.cell 4; have z5 : (u2.alloc (.cells #[.string nm, .bool true, .bool false, .bool false, .int .i64 1] 83)).cell? ⟨X + 1, 5, none⟩ = some (.int .i64 (R 4)) := B3Z.out.cell 5; have z6 : (u2.alloc (.cells #[.string nm, .bool true, .bool false, .bool false, .int .i64 1] 83)).cell? ⟨X + 1, 6, none⟩ = some (.int .i64 (R 5)) := B3Z.out.cell 6; have z7 : (u2.alloc (.cells #[.string nm, .bool true, .bool false, .bool false, .int .i64 1] 83)).cell? ⟨X + 1, 7, none⟩ = some (.int .i64 (R 6)) := B3Z.out.cell 7; have z8 : (u2.alloc (.cells #[.string nm, .bool true, .bool false, .bool false, .int .i64 1] 83)).cell? ⟨X + 1, 8, none⟩ = some (.int .i64 (R 7)) := B3Z.out.cell 8; have fz0 := B3Z.out.frozen 0; clear oo o2 B3I B3O)
    | (go_at_call 82; (with_reducible refine (INd.out _).mono ?_); rintro e w' ⟨rfl, hw⟩; obtain rfl := hw.symm; clear hw)
    | (go_at_call 99; clear z0 z1 z2 z3 z4 z5 z6 z7 z8 fz0; refine (does1 1 a b imm pw R d hd (X + 1) _ (by have := B3Z.out.set_ 0 (.int .i64 pw); rw [stV_pc] at this; exact this)).mono ?_; rintro e u4 ⟨rfl, bz, oz⟩; have bz := bz; rw [HR2.out, HP2.out] at bz; have OZ := hide oz; have BZ4 := hide bz; have B4X := hide ((B3X.out.far (p := ⟨X + 1, 0, none⟩) (by simp) (.int .i64 pw)).only oz (by simp)); have O4 := hide ((O3.out.mono (T := [X + 1]) (by simp)).setCell (p := ⟨X + 1, 0, none⟩) (.inl (by simp)) (.int .i64 pw)); have z0 : u4.cell? ⟨X + 1, 0, none⟩ = some (.int .i64 p2) := BZ4.out.cell 0; have z1 : u4.cell? ⟨X + 1, 1, none⟩ = some (.int .i64 (R2 0)) := BZ4.out.cell 1; have z2 : u4.cell? ⟨X + 1, 2, none⟩ = some (.int .i64 (R2 1)) := BZ4.out.cell 2; have z3 : u4.cell? ⟨X + 1, 3, none⟩ = some (.int .i64 (R2 2)) := BZ4.out.cell 3; have z4 : u4.cell? ⟨X + 1, 4, none⟩ = some (.int .i64 (R2 3)) := BZ4.out.cell 4; have z5 : u4.cell? ⟨X + 1, 5, none⟩ = some (.int .i64 (R2 4)) := BZ4.out.cell 5; have z6 : u4.cell? ⟨X + 1, 6, none⟩ = some (.int .i64 (R2 5)) := BZ4.out.cell 6; have z7 : u4.cell? ⟨X + 1, 7, none⟩ = some (.int .i64 (R2 6)) := BZ4.out.cell 7; have z8 : u4.cell? ⟨X + 1, 8, none⟩ = some (.int .i64 (R2 7)) := BZ4.out.cell 8; have x0 : u4.cell? ⟨X + 1 + 1, 0, none⟩ = some (.int .i64 0) := B4X.out.cell 0; have y0 := B4X.out.frozen 0; have x1 : u4.cell? ⟨X + 1 + 1, 1, none⟩ = some (.int .i64 0) := B4X.out.cell 1; have y1 := B4X.out.frozen 1; have x2 : u4.cell? ⟨X + 1 + 1, 2, none⟩ = some (.int .i64 0) := B4X.out.cell 2; have y2 := B4X.out.frozen 2; have x3 : u4.cell? ⟨X + 1 + 1, 3, none⟩ = some (.int .i64 0) := B4X.out.cell 3; have y3 := B4X.out.frozen 3; have x4 : u4.cell? ⟨X + 1 + 1, 4, none⟩ = some (.int .i64 0) := B4X.out.cell 4; have y4 := B4X.out.frozen 4; have x5 : u4.cell? ⟨X + 1 + 1, 5, none⟩ = some (.int .i64 0) := B4X.out.cell 5; have y5 := B4X.out.frozen 5; have x6 : u4.cell? ⟨X + 1 + 1, 6, none⟩ = some (.int .i64 0) := B4X.out.cell 6; have y6 := B4X.out.frozen 6; have x7 : u4.cell? ⟨X + 1 + 1, 7, none⟩ = some (.int .i64 0) := B4X.out.cell 7; have y7 := B4X.out.frozen 7; have x8 : u4.cell? ⟨X + 1 + 1, 8, none⟩ = some (.int .i64 0) := B4X.out.cell 8; have y8 := B4X.out.frozen 8; clear bz oz))
  rw [PGF.out]
  have BFF := (((((((((B4X.out).set_ 0 (.int .i64 p2)).set_ 1 (.int .i64 (R2 0))).set_ 2 (.int .i64 (R2 1))).set_ 3 (.int .i64 (R2 2))).set_ 4 (.int .i64 (R2 3))).set_ 5 (.int .i64 (R2 4))).set_ 6 (.int .i64 (R2 5))).set_ 7 (.int .i64 (R2 6))).set_ 8 (.int .i64 (R2 7))
  refine bodyPost_ret (v := .tuple #[.agg (stV p2 (R2)), .bool true]) (results_cell2b Tryz.results45 rfl rfl (load39 (p := p2) (R := R2) (by simpa [stV] using BFF))) rfl ⟨rfl, ?_⟩
  exact (((((((((((((O4.out.trans' OZ.out).mono (T := [X + 1, X + 1 + 1]) (by simp)))).setCell (p := ⟨X + 1 + 1, 0, none⟩) (.inl (by simp)) _).setCell (p := ⟨X + 1 + 1, 1, none⟩) (.inl (by simp)) _).setCell (p := ⟨X + 1 + 1, 2, none⟩) (.inl (by simp)) _).setCell (p := ⟨X + 1 + 1, 3, none⟩) (.inl (by simp)) _).setCell (p := ⟨X + 1 + 1, 4, none⟩) (.inl (by simp)) _).setCell (p := ⟨X + 1 + 1, 5, none⟩) (.inl (by simp)) _).setCell (p := ⟨X + 1 + 1, 6, none⟩) (.inl (by simp)) _).setCell (p := ⟨X + 1 + 1, 7, none⟩) (.inl (by simp)) _).setCell (p := ⟨X + 1 + 1, 8, none⟩) (.inl (by simp)) _).mono (fun x hx => .inr (by have := HX.out; simp at hx; omega))
set_option maxHeartbeats 8000000 in
theorem step2_badd (d : Int) (hd : d < 0 ∨ 7 < d) (a : Int) (b : Int) (imm p : Int) (R : Nat → Int) (w : World) : Calls Tryz.prog 45 #[.agg #[.int .i64 (2), .int .i64 d, .int .i64 a, .int .i64 b, .int .i64 imm], .agg (stV p R)] w fun e w' => e = .returned (stepV ⟨2, d, a, b, imm⟩ p R) ∧ Only [] w w' := by
  have PGF := hide (show stepV ⟨2, d, a, b, imm⟩ p R = .tuple #[.agg (stV p R), .bool false] from by
    have h1 : stepOk ⟨2, d, a, b, imm⟩ = false := by
      rw [Bool.eq_false_iff]
      unfold stepOk inReg
      simp [shp]
      omega
    unfold stepV
    rw [h1]
    rfl)
  obtain ⟨X, hX⟩ : ∃ X, w.heap.size = X := ⟨_, rfl⟩
  obtain ⟨W, hW⟩ : ∃ W, ((w.alloc (.cells #[.int .i64 (2), .int .i64 d, .int .i64 a, .int .i64 b, .int .i64 imm] 25)).alloc (.cells (stV p R) 98)).alloc (.cells #[.int .i64 0, .int .i64 0, .int .i64 0, .int .i64 0, .int .i64 0, .int .i64 0, .int .i64 0, .int .i64 0, .int .i64 0] 98) = W := ⟨_, rfl⟩
  have oW : Only [] w W := by rw [← hW]; exact (((Only.refl [] w).alloc _).alloc _).alloc _
  have bI : Blk W X 25 #[.int .i64 (2), .int .i64 d, .int .i64 a, .int .i64 b, .int .i64 imm] := by rw [← hW, ← hX]; exact ((Blk.new w 25 _).alloc _).alloc _
  have bZ : Blk W (X + 1) 98 (stV p R) := by
    have := (Blk.new (w.alloc (.cells #[.int .i64 (2), .int .i64 d, .int .i64 a, .int .i64 b, .int .i64 imm] 25)) 98 (stV p R)).alloc (.cells #[.int .i64 0, .int .i64 0, .int .i64 0, .int .i64 0, .int .i64 0, .int .i64 0, .int .i64 0, .int .i64 0, .int .i64 0] 98)
    rw [World.size_alloc, hX, hW] at this
    exact this
  have bX : Blk W (X + 1 + 1) 98 #[.int .i64 0, .int .i64 0, .int .i64 0, .int .i64 0, .int .i64 0, .int .i64 0, .int .i64 0, .int .i64 0, .int .i64 0] := by
    have := Blk.new ((w.alloc (.cells #[.int .i64 (2), .int .i64 d, .int .i64 a, .int .i64 b, .int .i64 imm] 25)).alloc (.cells (stV p R) 98)) 98 #[.int .i64 0, .int .i64 0, .int .i64 0, .int .i64 0, .int .i64 0, .int .i64 0, .int .i64 0, .int .i64 0, .int .i64 0]
    rw [World.size_alloc, World.size_alloc, hX, hW] at this
    exact this
  have CI := hide (fun V (ov : Only [] W V) => show V.cell? ⟨X, 0, none⟩ = some (.int .i64 (2)) from (bI.only ov (by simp)).cell 0)
  have DA := hide (fun V => does_any V)
  have HX := hide hX
  have HWX := hide (show X + 3 ≤ W.heap.size by have := bX.lt; omega)
  have OW := hide oW
  have BI := hide bI
  have BZ := hide bZ
  have BX := hide bX
  have LK := hide (fun (V : World) (mb nn : Nat) (h : Mp Tryz.prog 23 V mb (dF 6) nn) => show (Instr.lookup 132 (.map (some mb)) (.int .i64 2) true).run Tryz.prog V = .ok (.tuple #[.func (.func 100) #[] #[], .bool true]) V from by
    obtain ⟨l, hl⟩ := key22 2 (by decide)
    exact (h.look keyed22 Tryz.underlying132 hl (dF_some 6 2 (by omega) (by omega))).2)
  obtain ⟨nm, hnm⟩ : ∃ nm, ByteArray.mk (nmB 2).toArray = nm := ⟨_, rfl⟩
  have OF := hide (fun W => show Calls Tryz.prog 37 #[.int .i64 2] W fun e w' => e = .returned (.tuple #[.agg #[.string nm, .bool true, .bool true, .bool false, .int .i64 0], .bool true]) ∧ Only [] W w' from by rw [← hnm]; exact of_ok 2 (by decide) W)
  have INd := hide (fun W => show Calls Tryz.prog 82 #[.int .i64 d] W fun e w' => e = .returned (.bool false) ∧ w' = W from (inOk_any d W).mono fun e w' ⟨h1, h2⟩ => ⟨by rw [h1]; rcases hd with h | h; (rw [decide_eq_false (show ¬ 0 ≤ d by omega)]; rfl); (rw [decide_eq_false (show ¬ d ≤ 7 by omega), Bool.and_false]), h2⟩)
  skip
  unfold stV at hW
  have HW := hide hW
  clear oW bI bZ bX hX hW
  have hst : stV p R = #[.int .i64 p, .int .i64 (R 0), .int .i64 (R 1), .int .i64 (R 2), .int .i64 (R 3), .int .i64 (R 4), .int .i64 (R 5), .int .i64 (R 6), .int .i64 (R 7)] := rfl
  rw [hst]
  clear hst
  go_enter Tryz.func45, Tryz.ntmps45
  go_wp2_with fail
  rw [HX.out, HW.out]
  refine wp_region_held_drew (S := (fun V => Only [] W V)) (by kernel_rfl) ((Only.refl _ W).drew) (fun hHeld => ?_)
  revert hHeld
  generalize W.drew = u0
  intro hHeld
  obtain ⟨mb, hmb⟩ : ∃ mb, u0.heap.size = mb := ⟨_, rfl⟩
  refine wpAnyH_take (i := 1) (oi := ⟨some 13, _, _, _, _, _⟩) (v := ?vs4_1) rfl (by kernel_rfl) (by kernel_rfl) (by kernel_rfl) (fun _ _ _ h => h) (Or.inl ⟨by rfl, ?hys4_1⟩) (by assumption) ?rests4_1
  case hys4_1 => (intro V hSw; (try dsimp only at hSw); go_simp; first | done | (with_reducible rfl))
  try simp only [Act.put, List.setIfInBounds_toArray, List.set_cons_zero, List.set_cons_succ]
  refine wpAnyH_take (i := 2) (oi := ⟨some 14, _, _, _, _, _⟩) (v := ?vs4_2) rfl (by kernel_rfl) (by kernel_rfl) (by kernel_rfl) (fun _ _ _ h => h) (Or.inl ⟨by rfl, ?hys4_2⟩) (by assumption) ?rests4_2
  case hys4_2 => (intro V hSw; (try dsimp only at hSw); have z := CI.out V hSw; go_simp; first | done | (with_reducible rfl))
  try simp only [Act.put, List.setIfInBounds_toArray, List.set_cons_zero, List.set_cons_succ]
  refine wpAnyH_ready (rs := [0]) (by kernel_rfl) (by simp) ?_
  refine AllReadyH.cons (o := ⟨some 12, _, _, _, _, _⟩) rfl (fun K hK => ?_) (AllReadyH.nil)
  rw [if_pos (by rfl)]
  go_simp
  (with_reducible refine (DA.out _).mono ?_); rintro e u1 ⟨rfl, ⟨nn, MP⟩, o'⟩; rw [hmb] at MP ⊢; have MP := hide MP; have OS := hide ((show Only [] W u0 from hHeld).trans0 o')
  try dsimp only
  refine hK.out _ _ (OS.out) (fun hHeld => ?_)
  clear hK K
  try simp only [Act.put, List.setIfInBounds_toArray, List.set_cons_zero, List.set_cons_succ]
  refine wpAnyH_ready (rs := [3]) (by kernel_rfl) (by simp) ?_
  refine AllReadyH.cons (o := ⟨some 15, _, _, _, _, _⟩) rfl (fun K hK => ?_) (AllReadyH.nil)
  rw [if_pos (by rfl)]
  have z := LK.out _ _ _ MP.out
  go_simp
  try dsimp only
  refine hK.out _ _ ((show Only [] W u1 from hHeld)) (fun hHeld => ?_)
  clear hK K
  try simp only [Act.put, List.setIfInBounds_toArray, List.set_cons_zero, List.set_cons_succ]
  refine wpAnyH_take (i := 4) (oi := ⟨some 11, _, _, _, _, _⟩) (v := ?vs4_3) rfl (by kernel_rfl) (by kernel_rfl) (by kernel_rfl) (fun _ _ _ h => h) (Or.inl ⟨by rfl, ?hys4_3⟩) (by assumption) ?rests4_3
  case hys4_3 => (intro V hSw; (try dsimp only at hSw); go_simp; first | done | (with_reducible rfl))
  try simp only [Act.put, List.setIfInBounds_toArray, List.set_cons_zero, List.set_cons_succ]
  refine wpAnyH_take (i := 5) (oi := ⟨some 16, _, _, _, _, _⟩) (v := ?vs4_4) rfl (by kernel_rfl) (by kernel_rfl) (by kernel_rfl) (fun _ _ _ h => h) (Or.inl ⟨by rfl, ?hys4_4⟩) (by assumption) ?rests4_4
  case hys4_4 => (intro V hSw; (try dsimp only at hSw); go_simp; first | done | (with_reducible rfl))
  try simp only [Act.put, List.setIfInBounds_toArray, List.set_cons_zero, List.set_cons_succ]
  refine wpAnyH_take (i := 6) (oi := ⟨some 17, _, _, _, _, _⟩) (v := ?vs4_5) rfl (by kernel_rfl) (by kernel_rfl) (by kernel_rfl) (fun _ _ _ h => h) (Or.inl ⟨by rfl, ?hys4_5⟩) (by assumption) ?rests4_5
  case hys4_5 => (intro V hSw; (try dsimp only at hSw); go_simp; first | done | (with_reducible rfl))
  try simp only [Act.put, List.setIfInBounds_toArray, List.set_cons_zero, List.set_cons_succ]
  refine wpAnyH_take (i := 7) (oi := ⟨some 6, _, _, _, _, _⟩) (v := ?vs4_6) rfl (by kernel_rfl) (by kernel_rfl) (by kernel_rfl) (fun _ _ _ h => h) (Or.inl ⟨by rfl, ?hys4_6⟩) (by assumption) ?rests4_6
  case hys4_6 => (intro V hSw; (try dsimp only at hSw); go_simp; first | done | (with_reducible rfl))
  try simp only [Act.put, List.setIfInBounds_toArray, List.set_cons_zero, List.set_cons_succ]
  refine wpAnyH_take (i := 8) (oi := ⟨some 7, _, _, _, _, _⟩) (v := ?vs4_7) rfl (by kernel_rfl) (by kernel_rfl) (by kernel_rfl) (fun _ _ _ h => h) (Or.inl ⟨by rfl, ?hys4_7⟩) (by assumption) ?rests4_7
  case hys4_7 => (intro V hSw; (try dsimp only at hSw); go_simp; first | done | (with_reducible rfl))
  try simp only [Act.put, List.setIfInBounds_toArray, List.set_cons_zero, List.set_cons_succ]
  refine wpAnyH_done (by kernel_rfl) ?_ _
  have OS := hide (show Only [] W u1 from hHeld)
  have t0 := (BI.out.only OS.out (by simp)).cell 0
  clear hHeld hmb MP LK DA CI
  go_wp2_with (first
    | (go_at_call 37; (with_reducible refine (OF.out _).mono ?_); rintro e u2 ⟨rfl, o2⟩; have oo := (OS.out.trans0 o2).alloc (.cells #[.string nm, .bool true, .bool true, .bool false, .int .i64 0] 83); have B3I := BI.out.only oo (by simp); have B3Z := hide (BZ.out.only oo (by simp)); have B3X := hide (BX.out.only oo (by simp)); have O3 := hide (OW.out.trans0 oo); have B3O := Blk.new u2 83 #[.string nm, .bool true, .bool true, .bool false, .int .i64 0]; have i0 := B3I.cell 0; have i1 := B3I.cell 1; have i2 := B3I.cell 2; have i3 := B3I.cell 3; have i4 := B3I.cell 4; have q1 := B3O.cell 1; have q2 := B3O.cell 2; have q3 := B3O.cell 3; have z0 : (u2.alloc (.cells #[.string nm, .bool true, .bool true, .bool false, .int .i64 0] 83)).cell? ⟨X + 1, 0, none⟩ = some (.int .i64 p) := B3Z.out.cell 0; have z1 : (u2.alloc (.cells #[.string nm, .bool true, .bool true, .bool false, .int .i64 0] 83)).cell? ⟨X + 1, 1, none⟩ = some (.int .i64 (R 0)) := B3Z.out.cell 1; have z2 : (u2.alloc (.cells #[.string nm, .bool true, .bool true, .bool false, .int .i64 0] 83)).cell? ⟨X + 1, 2, none⟩ = some (.int .i64 (R 1)) := B3Z.out.cell 2; have z3 : (u2.alloc (.cells #[.string nm, .bool true, .bool true, .bool false, .int .i64 0] 83)).cell? ⟨X + 1, 3, none⟩ = some (.int .i64 (R 2)) := B3Z.out.cell 3; have z4 : (u2.alloc (.cells #[.string nm, .bool true, .bool true, .bool false, .int .i64 0] 83)).cell? ⟨X + 1, 4, none⟩ = some (.int .i64 (R 3)) := B3Z.out.cell 4; have z5 : (u2.alloc (.cells #[.string nm, .bool true, .bool true, .bool false, .int .i64 0] 83)).cell? ⟨X + 1, 5, none⟩ = some (.int .i64 (R 4)) := B3Z.out.cell 5; have z6 : (u2.alloc (.cells #[.string nm, .bool true, .bool true, .bool false, .int .i64 0] 83)).cell? ⟨X + 1, 6, none⟩ = some (.int .i64 (R 5)) := B3Z.out.cell 6; have z7 : (u2.alloc (.cells #[.string nm, .bool true, .bool true, .bool false, .int .i64 0] 83)).cell? ⟨X + 1, 7, none⟩ = some (.int .i64 (R 6)) := B3Z.out.cell 7; have z8 : (u2.alloc (.cells #[.string nm, .bool true, .bool true, .bool false, .int .i64 0] 83)).cell? ⟨X + 1, 8, none⟩ = some (.int .i64 (R 7)) := B3Z.out.cell 8; have x0 : (u2.alloc (.cells #[.string nm, .bool true, .bool true, .bool false, .int .i64 0] 83)).cell? ⟨X + 1 + 1, 0, none⟩ = some (.int .i64 0) := B3X.out.cell 0; have y0 := B3X.out.frozen 0; have x1 : (u2.alloc (.cells #[.string nm, .bool true, .bool true, .bool false, .int .i64 0] 83)).cell? ⟨X + 1 + 1, 1, none⟩ = some (.int .i64 0) := B3X.out.cell 1; have y1 := B3X.out.frozen 1; have x2 : (u2.alloc (.cells #[.string nm, .bool true, .bool true, .bool false, .int .i64 0] 83)).cell? ⟨X + 1 + 1, 2, none⟩ = some (.int .i64 0) := B3X.out.cell 2; have y2 := B3X.out.frozen 2; have x3 : (u2.alloc (.cells #[.string nm, .bool true, .bool true, .bool false, .int .i64 0] 83)).cell? ⟨X + 1 + 1, 3, none⟩ = some (.int .i64 0) := B3X.out.cell 3; have y3 := B3X.out.frozen 3; have x4 : (u2.alloc (.cells #[.string nm, .bool true, .bool true, .bool false, .int .i64 0] 83)).cell? ⟨X + 1 + 1, 4, none⟩ = some (.int .i64 0) := B3X.out.cell 4; have y4 := B3X.out.frozen 4; have x5 : (u2.alloc (.cells #[.string nm, .bool true, .bool true, .bool false, .int .i64 0] 83)).cell? ⟨X + 1 + 1, 5, none⟩ = some (.int .i64 0) := B3X.out.cell 5; have y5 := B3X.out.frozen 5; have x6 : (u2.alloc (.cells #[.string nm, .bool true, .bool true, .bool false, .int .i64 0] 83)).cell? ⟨X + 1 + 1, 6, none⟩ = some (.int .i64 0) := B3X.out.cell 6; have y6 := B3X.out.frozen 6; have x7 : (u2.alloc (.cells #[.string nm, .bool true, .bool true, .bool false, .int .i64 0] 83)).cell? ⟨X + 1 + 1, 7, none⟩ = some (.int .i64 0) := B3X.out.cell 7; have y7 := B3X.out.frozen 7; have x8 : (u2.alloc (.cells #[.string nm, .bool true, .bool true, .bool false, .int .i64 0] 83)).cell? ⟨X + 1 + 1, 8, none⟩ = some (.int .i64 0) := B3X.out.cell 8; have y8 := B3X.out.frozen 8; clear oo o2 B3I B3O)
    | (go_at_call 82; (with_reducible refine (INd.out _).mono ?_); rintro e w' ⟨rfl, hw⟩; obtain rfl := hw.symm; clear hw))
  rw [PGF.out]
  have BFF := (((((((((B3X.out).set_ 0 (.int .i64 p)).set_ 1 (.int .i64 (R 0))).set_ 2 (.int .i64 (R 1))).set_ 3 (.int .i64 (R 2))).set_ 4 (.int .i64 (R 3))).set_ 5 (.int .i64 (R 4))).set_ 6 (.int .i64 (R 5))).set_ 7 (.int .i64 (R 6))).set_ 8 (.int .i64 (R 7))
  refine bodyPost_ret (v := .tuple #[.agg (stV p (R)), .bool false]) (results_cell2b Tryz.results45 rfl rfl (load39 (p := p) (R := R) (by simpa [stV] using BFF))) rfl ⟨rfl, ?_⟩
  exact (((((((((((O3.out.mono (T := [X + 1 + 1]) (by simp))).setCell (p := ⟨X + 1 + 1, 0, none⟩) (.inl (by simp)) _).setCell (p := ⟨X + 1 + 1, 1, none⟩) (.inl (by simp)) _).setCell (p := ⟨X + 1 + 1, 2, none⟩) (.inl (by simp)) _).setCell (p := ⟨X + 1 + 1, 3, none⟩) (.inl (by simp)) _).setCell (p := ⟨X + 1 + 1, 4, none⟩) (.inl (by simp)) _).setCell (p := ⟨X + 1 + 1, 5, none⟩) (.inl (by simp)) _).setCell (p := ⟨X + 1 + 1, 6, none⟩) (.inl (by simp)) _).setCell (p := ⟨X + 1 + 1, 7, none⟩) (.inl (by simp)) _).setCell (p := ⟨X + 1 + 1, 8, none⟩) (.inl (by simp)) _).mono (fun x hx => .inr (by have := HX.out; simp at hx; omega))
set_option maxHeartbeats 8000000 in
theorem step2_bada (d : Nat) (hd : d < 8) (a : Int) (ha : a < 0 ∨ 7 < a) (b : Int) (imm p : Int) (R : Nat → Int) (w : World) : Calls Tryz.prog 45 #[.agg #[.int .i64 (2), .int .i64 ((d : Nat) : Int), .int .i64 a, .int .i64 b, .int .i64 imm], .agg (stV p R)] w fun e w' => e = .returned (stepV ⟨2, ((d : Nat) : Int), a, b, imm⟩ p R) ∧ Only [] w w' := by
  have PGF := hide (show stepV ⟨2, ((d : Nat) : Int), a, b, imm⟩ p R = .tuple #[.agg (stV p R), .bool false] from by
    have h1 : stepOk ⟨2, ((d : Nat) : Int), a, b, imm⟩ = false := by
      rw [Bool.eq_false_iff]
      unfold stepOk inReg
      simp [shp]
      omega
    unfold stepV
    rw [h1]
    rfl)
  obtain ⟨X, hX⟩ : ∃ X, w.heap.size = X := ⟨_, rfl⟩
  obtain ⟨W, hW⟩ : ∃ W, ((w.alloc (.cells #[.int .i64 (2), .int .i64 ((d : Nat) : Int), .int .i64 a, .int .i64 b, .int .i64 imm] 25)).alloc (.cells (stV p R) 98)).alloc (.cells #[.int .i64 0, .int .i64 0, .int .i64 0, .int .i64 0, .int .i64 0, .int .i64 0, .int .i64 0, .int .i64 0, .int .i64 0] 98) = W := ⟨_, rfl⟩
  have oW : Only [] w W := by rw [← hW]; exact (((Only.refl [] w).alloc _).alloc _).alloc _
  have bI : Blk W X 25 #[.int .i64 (2), .int .i64 ((d : Nat) : Int), .int .i64 a, .int .i64 b, .int .i64 imm] := by rw [← hW, ← hX]; exact ((Blk.new w 25 _).alloc _).alloc _
  have bZ : Blk W (X + 1) 98 (stV p R) := by
    have := (Blk.new (w.alloc (.cells #[.int .i64 (2), .int .i64 ((d : Nat) : Int), .int .i64 a, .int .i64 b, .int .i64 imm] 25)) 98 (stV p R)).alloc (.cells #[.int .i64 0, .int .i64 0, .int .i64 0, .int .i64 0, .int .i64 0, .int .i64 0, .int .i64 0, .int .i64 0, .int .i64 0] 98)
    rw [World.size_alloc, hX, hW] at this
    exact this
  have bX : Blk W (X + 1 + 1) 98 #[.int .i64 0, .int .i64 0, .int .i64 0, .int .i64 0, .int .i64 0, .int .i64 0, .int .i64 0, .int .i64 0, .int .i64 0] := by
    have := Blk.new ((w.alloc (.cells #[.int .i64 (2), .int .i64 ((d : Nat) : Int), .int .i64 a, .int .i64 b, .int .i64 imm] 25)).alloc (.cells (stV p R) 98)) 98 #[.int .i64 0, .int .i64 0, .int .i64 0, .int .i64 0, .int .i64 0, .int .i64 0, .int .i64 0, .int .i64 0, .int .i64 0]
    rw [World.size_alloc, World.size_alloc, hX, hW] at this
    exact this
  have CI := hide (fun V (ov : Only [] W V) => show V.cell? ⟨X, 0, none⟩ = some (.int .i64 (2)) from (bI.only ov (by simp)).cell 0)
  have DA := hide (fun V => does_any V)
  have HX := hide hX
  have HWX := hide (show X + 3 ≤ W.heap.size by have := bX.lt; omega)
  have OW := hide oW
  have BI := hide bI
  have BZ := hide bZ
  have BX := hide bX
  have LK := hide (fun (V : World) (mb nn : Nat) (h : Mp Tryz.prog 23 V mb (dF 6) nn) => show (Instr.lookup 132 (.map (some mb)) (.int .i64 2) true).run Tryz.prog V = .ok (.tuple #[.func (.func 100) #[] #[], .bool true]) V from by
    obtain ⟨l, hl⟩ := key22 2 (by decide)
    exact (h.look keyed22 Tryz.underlying132 hl (dF_some 6 2 (by omega) (by omega))).2)
  obtain ⟨nm, hnm⟩ : ∃ nm, ByteArray.mk (nmB 2).toArray = nm := ⟨_, rfl⟩
  have OF := hide (fun W => show Calls Tryz.prog 37 #[.int .i64 2] W fun e w' => e = .returned (.tuple #[.agg #[.string nm, .bool true, .bool true, .bool false, .int .i64 0], .bool true]) ∧ Only [] W w' from by rw [← hnm]; exact of_ok 2 (by decide) W)
  have INd := hide (fun W => show Calls Tryz.prog 82 #[.int .i64 ((d : Nat) : Int)] W fun e w' => e = .returned (.bool true) ∧ w' = W from (inOk_any ((d : Nat) : Int) W).mono fun e w' ⟨h1, h2⟩ => ⟨by rw [h1, decide_eq_true (show (0 : Int) ≤ d by omega), decide_eq_true (show (d : Int) ≤ 7 by omega)]; rfl, h2⟩)
  have INa := hide (fun W => show Calls Tryz.prog 82 #[.int .i64 a] W fun e w' => e = .returned (.bool false) ∧ w' = W from (inOk_any a W).mono fun e w' ⟨h1, h2⟩ => ⟨by rw [h1]; rcases ha with h | h; (rw [decide_eq_false (show ¬ 0 ≤ a by omega)]; rfl); (rw [decide_eq_false (show ¬ a ≤ 7 by omega), Bool.and_false]), h2⟩)
  skip
  unfold stV at hW
  have HW := hide hW
  clear oW bI bZ bX hX hW
  have hst : stV p R = #[.int .i64 p, .int .i64 (R 0), .int .i64 (R 1), .int .i64 (R 2), .int .i64 (R 3), .int .i64 (R 4), .int .i64 (R 5), .int .i64 (R 6), .int .i64 (R 7)] := rfl
  rw [hst]
  clear hst
  go_enter Tryz.func45, Tryz.ntmps45
  go_wp2_with fail
  rw [HX.out, HW.out]
  refine wp_region_held_drew (S := (fun V => Only [] W V)) (by kernel_rfl) ((Only.refl _ W).drew) (fun hHeld => ?_)
  revert hHeld
  generalize W.drew = u0
  intro hHeld
  obtain ⟨mb, hmb⟩ : ∃ mb, u0.heap.size = mb := ⟨_, rfl⟩
  refine wpAnyH_take (i := 1) (oi := ⟨some 13, _, _, _, _, _⟩) (v := ?vs5_1) rfl (by kernel_rfl) (by kernel_rfl) (by kernel_rfl) (fun _ _ _ h => h) (Or.inl ⟨by rfl, ?hys5_1⟩) (by assumption) ?rests5_1
  case hys5_1 => (intro V hSw; (try dsimp only at hSw); go_simp; first | done | (with_reducible rfl))
  try simp only [Act.put, List.setIfInBounds_toArray, List.set_cons_zero, List.set_cons_succ]
  refine wpAnyH_take (i := 2) (oi := ⟨some 14, _, _, _, _, _⟩) (v := ?vs5_2) rfl (by kernel_rfl) (by kernel_rfl) (by kernel_rfl) (fun _ _ _ h => h) (Or.inl ⟨by rfl, ?hys5_2⟩) (by assumption) ?rests5_2
  case hys5_2 => (intro V hSw; (try dsimp only at hSw); have z := CI.out V hSw; go_simp; first | done | (with_reducible rfl))
  try simp only [Act.put, List.setIfInBounds_toArray, List.set_cons_zero, List.set_cons_succ]
  refine wpAnyH_ready (rs := [0]) (by kernel_rfl) (by simp) ?_
  refine AllReadyH.cons (o := ⟨some 12, _, _, _, _, _⟩) rfl (fun K hK => ?_) (AllReadyH.nil)
  rw [if_pos (by rfl)]
  go_simp
  (with_reducible refine (DA.out _).mono ?_); rintro e u1 ⟨rfl, ⟨nn, MP⟩, o'⟩; rw [hmb] at MP ⊢; have MP := hide MP; have OS := hide ((show Only [] W u0 from hHeld).trans0 o')
  try dsimp only
  refine hK.out _ _ (OS.out) (fun hHeld => ?_)
  clear hK K
  try simp only [Act.put, List.setIfInBounds_toArray, List.set_cons_zero, List.set_cons_succ]
  refine wpAnyH_ready (rs := [3]) (by kernel_rfl) (by simp) ?_
  refine AllReadyH.cons (o := ⟨some 15, _, _, _, _, _⟩) rfl (fun K hK => ?_) (AllReadyH.nil)
  rw [if_pos (by rfl)]
  have z := LK.out _ _ _ MP.out
  go_simp
  try dsimp only
  refine hK.out _ _ ((show Only [] W u1 from hHeld)) (fun hHeld => ?_)
  clear hK K
  try simp only [Act.put, List.setIfInBounds_toArray, List.set_cons_zero, List.set_cons_succ]
  refine wpAnyH_take (i := 4) (oi := ⟨some 11, _, _, _, _, _⟩) (v := ?vs5_3) rfl (by kernel_rfl) (by kernel_rfl) (by kernel_rfl) (fun _ _ _ h => h) (Or.inl ⟨by rfl, ?hys5_3⟩) (by assumption) ?rests5_3
  case hys5_3 => (intro V hSw; (try dsimp only at hSw); go_simp; first | done | (with_reducible rfl))
  try simp only [Act.put, List.setIfInBounds_toArray, List.set_cons_zero, List.set_cons_succ]
  refine wpAnyH_take (i := 5) (oi := ⟨some 16, _, _, _, _, _⟩) (v := ?vs5_4) rfl (by kernel_rfl) (by kernel_rfl) (by kernel_rfl) (fun _ _ _ h => h) (Or.inl ⟨by rfl, ?hys5_4⟩) (by assumption) ?rests5_4
  case hys5_4 => (intro V hSw; (try dsimp only at hSw); go_simp; first | done | (with_reducible rfl))
  try simp only [Act.put, List.setIfInBounds_toArray, List.set_cons_zero, List.set_cons_succ]
  refine wpAnyH_take (i := 6) (oi := ⟨some 17, _, _, _, _, _⟩) (v := ?vs5_5) rfl (by kernel_rfl) (by kernel_rfl) (by kernel_rfl) (fun _ _ _ h => h) (Or.inl ⟨by rfl, ?hys5_5⟩) (by assumption) ?rests5_5
  case hys5_5 => (intro V hSw; (try dsimp only at hSw); go_simp; first | done | (with_reducible rfl))
  try simp only [Act.put, List.setIfInBounds_toArray, List.set_cons_zero, List.set_cons_succ]
  refine wpAnyH_take (i := 7) (oi := ⟨some 6, _, _, _, _, _⟩) (v := ?vs5_6) rfl (by kernel_rfl) (by kernel_rfl) (by kernel_rfl) (fun _ _ _ h => h) (Or.inl ⟨by rfl, ?hys5_6⟩) (by assumption) ?rests5_6
  case hys5_6 => (intro V hSw; (try dsimp only at hSw); go_simp; first | done | (with_reducible rfl))
  try simp only [Act.put, List.setIfInBounds_toArray, List.set_cons_zero, List.set_cons_succ]
  refine wpAnyH_take (i := 8) (oi := ⟨some 7, _, _, _, _, _⟩) (v := ?vs5_7) rfl (by kernel_rfl) (by kernel_rfl) (by kernel_rfl) (fun _ _ _ h => h) (Or.inl ⟨by rfl, ?hys5_7⟩) (by assumption) ?rests5_7
  case hys5_7 => (intro V hSw; (try dsimp only at hSw); go_simp; first | done | (with_reducible rfl))
  try simp only [Act.put, List.setIfInBounds_toArray, List.set_cons_zero, List.set_cons_succ]
  refine wpAnyH_done (by kernel_rfl) ?_ _
  have OS := hide (show Only [] W u1 from hHeld)
  have t0 := (BI.out.only OS.out (by simp)).cell 0
  clear hHeld hmb MP LK DA CI
  go_wp2_with (first
    | (go_at_call 37; (with_reducible refine (OF.out _).mono ?_); rintro e u2 ⟨rfl, o2⟩; have oo := (OS.out.trans0 o2).alloc (.cells #[.string nm, .bool true, .bool true, .bool false, .int .i64 0] 83); have B3I := BI.out.only oo (by simp); have B3Z := hide (BZ.out.only oo (by simp)); have B3X := hide (BX.out.only oo (by simp)); have O3 := hide (OW.out.trans0 oo); have B3O := Blk.new u2 83 #[.string nm, .bool true, .bool true, .bool false, .int .i64 0]; have i0 := B3I.cell 0; have i1 := B3I.cell 1; have i2 := B3I.cell 2; have i3 := B3I.cell 3; have i4 := B3I.cell 4; have q1 := B3O.cell 1; have q2 := B3O.cell 2; have q3 := B3O.cell 3; have z0 : (u2.alloc (.cells #[.string nm, .bool true, .bool true, .bool false, .int .i64 0] 83)).cell? ⟨X + 1, 0, none⟩ = some (.int .i64 p) := B3Z.out.cell 0; have z1 : (u2.alloc (.cells #[.string nm, .bool true, .bool true, .bool false, .int .i64 0] 83)).cell? ⟨X + 1, 1, none⟩ = some (.int .i64 (R 0)) := B3Z.out.cell 1; have z2 : (u2.alloc (.cells #[.string nm, .bool true, .bool true, .bool false, .int .i64 0] 83)).cell? ⟨X + 1, 2, none⟩ = some (.int .i64 (R 1)) := B3Z.out.cell 2; have z3 : (u2.alloc (.cells #[.string nm, .bool true, .bool true, .bool false, .int .i64 0] 83)).cell? ⟨X + 1, 3, none⟩ = some (.int .i64 (R 2)) := B3Z.out.cell 3; have z4 : (u2.alloc (.cells #[.string nm, .bool true, .bool true, .bool false, .int .i64 0] 83)).cell? ⟨X + 1, 4, none⟩ = some (.int .i64 (R 3)) := B3Z.out.cell 4; have z5 : (u2.alloc (.cells #[.string nm, .bool true, .bool true, .bool false, .int .i64 0] 83)).cell? ⟨X + 1, 5, none⟩ = some (.int .i64 (R 4)) := B3Z.out.cell 5; have z6 : (u2.alloc (.cells #[.string nm, .bool true, .bool true, .bool false, .int .i64 0] 83)).cell? ⟨X + 1, 6, none⟩ = some (.int .i64 (R 5)) := B3Z.out.cell 6; have z7 : (u2.alloc (.cells #[.string nm, .bool true, .bool true, .bool false, .int .i64 0] 83)).cell? ⟨X + 1, 7, none⟩ = some (.int .i64 (R 6)) := B3Z.out.cell 7; have z8 : (u2.alloc (.cells #[.string nm, .bool true, .bool true, .bool false, .int .i64 0] 83)).cell? ⟨X + 1, 8, none⟩ = some (.int .i64 (R 7)) := B3Z.out.cell 8; have x0 : (u2.alloc (.cells #[.string nm, .bool true, .bool true, .bool false, .int .i64 0] 83)).cell? ⟨X + 1 + 1, 0, none⟩ = some (.int .i64 0) := B3X.out.cell 0; have y0 := B3X.out.frozen 0; have x1 : (u2.alloc (.cells #[.string nm, .bool true, .bool true, .bool false, .int .i64 0] 83)).cell? ⟨X + 1 + 1, 1, none⟩ = some (.int .i64 0) := B3X.out.cell 1; have y1 := B3X.out.frozen 1; have x2 : (u2.alloc (.cells #[.string nm, .bool true, .bool true, .bool false, .int .i64 0] 83)).cell? ⟨X + 1 + 1, 2, none⟩ = some (.int .i64 0) := B3X.out.cell 2; have y2 := B3X.out.frozen 2; have x3 : (u2.alloc (.cells #[.string nm, .bool true, .bool true, .bool false, .int .i64 0] 83)).cell? ⟨X + 1 + 1, 3, none⟩ = some (.int .i64 0) := B3X.out.cell 3; have y3 := B3X.out.frozen 3; have x4 : (u2.alloc (.cells #[.string nm, .bool true, .bool true, .bool false, .int .i64 0] 83)).cell? ⟨X + 1 + 1, 4, none⟩ = some (.int .i64 0) := B3X.out.cell 4; have y4 := B3X.out.frozen 4; have x5 : (u2.alloc (.cells #[.string nm, .bool true, .bool true, .bool false, .int .i64 0] 83)).cell? ⟨X + 1 + 1, 5, none⟩ = some (.int .i64 0) := B3X.out.cell 5; have y5 := B3X.out.frozen 5; have x6 : (u2.alloc (.cells #[.string nm, .bool true, .bool true, .bool false, .int .i64 0] 83)).cell? ⟨X + 1 + 1, 6, none⟩ = some (.int .i64 0) := B3X.out.cell 6; have y6 := B3X.out.frozen 6; have x7 : (u2.alloc (.cells #[.string nm, .bool true, .bool true, .bool false, .int .i64 0] 83)).cell? ⟨X + 1 + 1, 7, none⟩ = some (.int .i64 0) := B3X.out.cell 7; have y7 := B3X.out.frozen 7; have x8 : (u2.alloc (.cells #[.string nm, .bool true, .bool true, .bool false, .int .i64 0] 83)).cell? ⟨X + 1 + 1, 8, none⟩ = some (.int .i64 0) := B3X.out.cell 8; have y8 := B3X.out.frozen 8; clear oo o2 B3I B3O)
    | (go_at_call 82; (with_reducible refine (INd.out _).mono ?_); rintro e w' ⟨rfl, hw⟩; obtain rfl := hw.symm; clear hw)
    | (go_at_call 82; (with_reducible refine (INa.out _).mono ?_); rintro e w' ⟨rfl, hw⟩; obtain rfl := hw.symm; clear hw))
  rw [PGF.out]
  have BFF := (((((((((B3X.out).set_ 0 (.int .i64 p)).set_ 1 (.int .i64 (R 0))).set_ 2 (.int .i64 (R 1))).set_ 3 (.int .i64 (R 2))).set_ 4 (.int .i64 (R 3))).set_ 5 (.int .i64 (R 4))).set_ 6 (.int .i64 (R 5))).set_ 7 (.int .i64 (R 6))).set_ 8 (.int .i64 (R 7))
  refine bodyPost_ret (v := .tuple #[.agg (stV p (R)), .bool false]) (results_cell2b Tryz.results45 rfl rfl (load39 (p := p) (R := R) (by simpa [stV] using BFF))) rfl ⟨rfl, ?_⟩
  exact (((((((((((O3.out.mono (T := [X + 1 + 1]) (by simp))).setCell (p := ⟨X + 1 + 1, 0, none⟩) (.inl (by simp)) _).setCell (p := ⟨X + 1 + 1, 1, none⟩) (.inl (by simp)) _).setCell (p := ⟨X + 1 + 1, 2, none⟩) (.inl (by simp)) _).setCell (p := ⟨X + 1 + 1, 3, none⟩) (.inl (by simp)) _).setCell (p := ⟨X + 1 + 1, 4, none⟩) (.inl (by simp)) _).setCell (p := ⟨X + 1 + 1, 5, none⟩) (.inl (by simp)) _).setCell (p := ⟨X + 1 + 1, 6, none⟩) (.inl (by simp)) _).setCell (p := ⟨X + 1 + 1, 7, none⟩) (.inl (by simp)) _).setCell (p := ⟨X + 1 + 1, 8, none⟩) (.inl (by simp)) _).mono (fun x hx => .inr (by have := HX.out; simp at hx; omega))
set_option maxHeartbeats 8000000 in
theorem step2_ok (d : Nat) (hd : d < 8) (a : Nat) (ha : a < 8) (b : Int) (imm p : Int) (R : Nat → Int) (w : World) : Calls Tryz.prog 45 #[.agg #[.int .i64 (2), .int .i64 ((d : Nat) : Int), .int .i64 ((a : Nat) : Int), .int .i64 b, .int .i64 imm], .agg (stV p R)] w fun e w' => e = .returned (stepV ⟨2, ((d : Nat) : Int), ((a : Nat) : Int), b, imm⟩ p R) ∧ Only [] w w' := by
  have PGF := hide (show stepV ⟨2, ((d : Nat) : Int), ((a : Nat) : Int), b, imm⟩ p R = .tuple #[.agg (stV (IntKind.i64.wrap (p + 1)) (upR R d (R a))), .bool true] from by
    have h1 : stepOk ⟨2, ((d : Nat) : Int), ((a : Nat) : Int), b, imm⟩ = true := by unfold stepOk inReg; simp [shp] <;> omega
    have h2 : stepPC ⟨2, ((d : Nat) : Int), ((a : Nat) : Int), b, imm⟩ p R = (IntKind.i64.wrap (p + 1)) := by unfold stepPC; simp
    have h3 : stepR ⟨2, ((d : Nat) : Int), ((a : Nat) : Int), b, imm⟩ R = (upR R d (R a)) := by unfold stepR; simp
    unfold stepV
    rw [h1, h2, h3]
    rfl)
  obtain ⟨X, hX⟩ : ∃ X, w.heap.size = X := ⟨_, rfl⟩
  obtain ⟨W, hW⟩ : ∃ W, ((w.alloc (.cells #[.int .i64 (2), .int .i64 ((d : Nat) : Int), .int .i64 ((a : Nat) : Int), .int .i64 b, .int .i64 imm] 25)).alloc (.cells (stV p R) 98)).alloc (.cells #[.int .i64 0, .int .i64 0, .int .i64 0, .int .i64 0, .int .i64 0, .int .i64 0, .int .i64 0, .int .i64 0, .int .i64 0] 98) = W := ⟨_, rfl⟩
  have oW : Only [] w W := by rw [← hW]; exact (((Only.refl [] w).alloc _).alloc _).alloc _
  have bI : Blk W X 25 #[.int .i64 (2), .int .i64 ((d : Nat) : Int), .int .i64 ((a : Nat) : Int), .int .i64 b, .int .i64 imm] := by rw [← hW, ← hX]; exact ((Blk.new w 25 _).alloc _).alloc _
  have bZ : Blk W (X + 1) 98 (stV p R) := by
    have := (Blk.new (w.alloc (.cells #[.int .i64 (2), .int .i64 ((d : Nat) : Int), .int .i64 ((a : Nat) : Int), .int .i64 b, .int .i64 imm] 25)) 98 (stV p R)).alloc (.cells #[.int .i64 0, .int .i64 0, .int .i64 0, .int .i64 0, .int .i64 0, .int .i64 0, .int .i64 0, .int .i64 0, .int .i64 0] 98)
    rw [World.size_alloc, hX, hW] at this
    exact this
  have bX : Blk W (X + 1 + 1) 98 #[.int .i64 0, .int .i64 0, .int .i64 0, .int .i64 0, .int .i64 0, .int .i64 0, .int .i64 0, .int .i64 0, .int .i64 0] := by
    have := Blk.new ((w.alloc (.cells #[.int .i64 (2), .int .i64 ((d : Nat) : Int), .int .i64 ((a : Nat) : Int), .int .i64 b, .int .i64 imm] 25)).alloc (.cells (stV p R) 98)) 98 #[.int .i64 0, .int .i64 0, .int .i64 0, .int .i64 0, .int .i64 0, .int .i64 0, .int .i64 0, .int .i64 0, .int .i64 0]
    rw [World.size_alloc, World.size_alloc, hX, hW] at this
    exact this
  have CI := hide (fun V (ov : Only [] W V) => show V.cell? ⟨X, 0, none⟩ = some (.int .i64 (2)) from (bI.only ov (by simp)).cell 0)
  have DA := hide (fun V => does_any V)
  have HX := hide hX
  have HWX := hide (show X + 3 ≤ W.heap.size by have := bX.lt; omega)
  have OW := hide oW
  have BI := hide bI
  have BZ := hide bZ
  have BX := hide bX
  have LK := hide (fun (V : World) (mb nn : Nat) (h : Mp Tryz.prog 23 V mb (dF 6) nn) => show (Instr.lookup 132 (.map (some mb)) (.int .i64 2) true).run Tryz.prog V = .ok (.tuple #[.func (.func 100) #[] #[], .bool true]) V from by
    obtain ⟨l, hl⟩ := key22 2 (by decide)
    exact (h.look keyed22 Tryz.underlying132 hl (dF_some 6 2 (by omega) (by omega))).2)
  obtain ⟨nm, hnm⟩ : ∃ nm, ByteArray.mk (nmB 2).toArray = nm := ⟨_, rfl⟩
  have OF := hide (fun W => show Calls Tryz.prog 37 #[.int .i64 2] W fun e w' => e = .returned (.tuple #[.agg #[.string nm, .bool true, .bool true, .bool false, .int .i64 0], .bool true]) ∧ Only [] W w' from by rw [← hnm]; exact of_ok 2 (by decide) W)
  have INd := hide (fun W => show Calls Tryz.prog 82 #[.int .i64 ((d : Nat) : Int)] W fun e w' => e = .returned (.bool true) ∧ w' = W from (inOk_any ((d : Nat) : Int) W).mono fun e w' ⟨h1, h2⟩ => ⟨by rw [h1, decide_eq_true (show (0 : Int) ≤ d by omega), decide_eq_true (show (d : Int) ≤ 7 by omega)]; rfl, h2⟩)
  have INa := hide (fun W => show Calls Tryz.prog 82 #[.int .i64 ((a : Nat) : Int)] W fun e w' => e = .returned (.bool true) ∧ w' = W from (inOk_any ((a : Nat) : Int) W).mono fun e w' ⟨h1, h2⟩ => ⟨by rw [h1, decide_eq_true (show (0 : Int) ≤ a by omega), decide_eq_true (show (a : Int) ≤ 7 by omega)]; rfl, h2⟩)
  have e1 : ∃ pw, IntKind.i64.wrap (p + 1) = pw := ⟨_, rfl⟩
  obtain ⟨pw, hpw⟩ := e1
  have PGF := PGF.out
  rw [hpw] at PGF
  obtain ⟨R2, hR2⟩ : ∃ R2, (upR R d (R a)) = R2 := ⟨_, rfl⟩
  obtain ⟨p2, hp2⟩ : ∃ p2, pw = p2 := ⟨_, rfl⟩
  rw [hR2, hp2] at PGF
  have HR2 := hide hR2
  clear hR2
  have HP2 := hide hp2
  clear hp2
  have PGF := hide PGF
  unfold stV at hW
  have HW := hide hW
  clear oW bI bZ bX hX hW
  have hst : stV p R = #[.int .i64 p, .int .i64 (R 0), .int .i64 (R 1), .int .i64 (R 2), .int .i64 (R 3), .int .i64 (R 4), .int .i64 (R 5), .int .i64 (R 6), .int .i64 (R 7)] := rfl
  rw [hst]
  clear hst
  go_enter Tryz.func45, Tryz.ntmps45
  go_wp2_with fail
  rw [HX.out, HW.out]
  refine wp_region_held_drew (S := (fun V => Only [] W V)) (by kernel_rfl) ((Only.refl _ W).drew) (fun hHeld => ?_)
  revert hHeld
  generalize W.drew = u0
  intro hHeld
  obtain ⟨mb, hmb⟩ : ∃ mb, u0.heap.size = mb := ⟨_, rfl⟩
  refine wpAnyH_take (i := 1) (oi := ⟨some 13, _, _, _, _, _⟩) (v := ?vs6_1) rfl (by kernel_rfl) (by kernel_rfl) (by kernel_rfl) (fun _ _ _ h => h) (Or.inl ⟨by rfl, ?hys6_1⟩) (by assumption) ?rests6_1
  case hys6_1 => (intro V hSw; (try dsimp only at hSw); go_simp; first | done | (with_reducible rfl))
  try simp only [Act.put, List.setIfInBounds_toArray, List.set_cons_zero, List.set_cons_succ]
  refine wpAnyH_take (i := 2) (oi := ⟨some 14, _, _, _, _, _⟩) (v := ?vs6_2) rfl (by kernel_rfl) (by kernel_rfl) (by kernel_rfl) (fun _ _ _ h => h) (Or.inl ⟨by rfl, ?hys6_2⟩) (by assumption) ?rests6_2
  case hys6_2 => (intro V hSw; (try dsimp only at hSw); have z := CI.out V hSw; go_simp; first | done | (with_reducible rfl))
  try simp only [Act.put, List.setIfInBounds_toArray, List.set_cons_zero, List.set_cons_succ]
  refine wpAnyH_ready (rs := [0]) (by kernel_rfl) (by simp) ?_
  refine AllReadyH.cons (o := ⟨some 12, _, _, _, _, _⟩) rfl (fun K hK => ?_) (AllReadyH.nil)
  rw [if_pos (by rfl)]
  go_simp
  (with_reducible refine (DA.out _).mono ?_); rintro e u1 ⟨rfl, ⟨nn, MP⟩, o'⟩; rw [hmb] at MP ⊢; have MP := hide MP; have OS := hide ((show Only [] W u0 from hHeld).trans0 o')
  try dsimp only
  refine hK.out _ _ (OS.out) (fun hHeld => ?_)
  clear hK K
  try simp only [Act.put, List.setIfInBounds_toArray, List.set_cons_zero, List.set_cons_succ]
  refine wpAnyH_ready (rs := [3]) (by kernel_rfl) (by simp) ?_
  refine AllReadyH.cons (o := ⟨some 15, _, _, _, _, _⟩) rfl (fun K hK => ?_) (AllReadyH.nil)
  rw [if_pos (by rfl)]
  have z := LK.out _ _ _ MP.out
  go_simp
  try dsimp only
  refine hK.out _ _ ((show Only [] W u1 from hHeld)) (fun hHeld => ?_)
  clear hK K
  try simp only [Act.put, List.setIfInBounds_toArray, List.set_cons_zero, List.set_cons_succ]
  refine wpAnyH_take (i := 4) (oi := ⟨some 11, _, _, _, _, _⟩) (v := ?vs6_3) rfl (by kernel_rfl) (by kernel_rfl) (by kernel_rfl) (fun _ _ _ h => h) (Or.inl ⟨by rfl, ?hys6_3⟩) (by assumption) ?rests6_3
  case hys6_3 => (intro V hSw; (try dsimp only at hSw); go_simp; first | done | (with_reducible rfl))
  try simp only [Act.put, List.setIfInBounds_toArray, List.set_cons_zero, List.set_cons_succ]
  refine wpAnyH_take (i := 5) (oi := ⟨some 16, _, _, _, _, _⟩) (v := ?vs6_4) rfl (by kernel_rfl) (by kernel_rfl) (by kernel_rfl) (fun _ _ _ h => h) (Or.inl ⟨by rfl, ?hys6_4⟩) (by assumption) ?rests6_4
  case hys6_4 => (intro V hSw; (try dsimp only at hSw); go_simp; first | done | (with_reducible rfl))
  try simp only [Act.put, List.setIfInBounds_toArray, List.set_cons_zero, List.set_cons_succ]
  refine wpAnyH_take (i := 6) (oi := ⟨some 17, _, _, _, _, _⟩) (v := ?vs6_5) rfl (by kernel_rfl) (by kernel_rfl) (by kernel_rfl) (fun _ _ _ h => h) (Or.inl ⟨by rfl, ?hys6_5⟩) (by assumption) ?rests6_5
  case hys6_5 => (intro V hSw; (try dsimp only at hSw); go_simp; first | done | (with_reducible rfl))
  try simp only [Act.put, List.setIfInBounds_toArray, List.set_cons_zero, List.set_cons_succ]
  refine wpAnyH_take (i := 7) (oi := ⟨some 6, _, _, _, _, _⟩) (v := ?vs6_6) rfl (by kernel_rfl) (by kernel_rfl) (by kernel_rfl) (fun _ _ _ h => h) (Or.inl ⟨by rfl, ?hys6_6⟩) (by assumption) ?rests6_6
  case hys6_6 => (intro V hSw; (try dsimp only at hSw); go_simp; first | done | (with_reducible rfl))
  try simp only [Act.put, List.setIfInBounds_toArray, List.set_cons_zero, List.set_cons_succ]
  refine wpAnyH_take (i := 8) (oi := ⟨some 7, _, _, _, _, _⟩) (v := ?vs6_7) rfl (by kernel_rfl) (by kernel_rfl) (by kernel_rfl) (fun _ _ _ h => h) (Or.inl ⟨by rfl, ?hys6_7⟩) (by assumption) ?rests6_7
  case hys6_7 => (intro V hSw; (try dsimp only at hSw); go_simp; first | done | (with_reducible rfl))
  try simp only [Act.put, List.setIfInBounds_toArray, List.set_cons_zero, List.set_cons_succ]
  refine wpAnyH_done (by kernel_rfl) ?_ _
  have OS := hide (show Only [] W u1 from hHeld)
  have t0 := (BI.out.only OS.out (by simp)).cell 0
  clear hHeld hmb MP LK DA CI
  go_wp2_with (first
    | (go_at_call 37; (with_reducible refine (OF.out _).mono ?_); rintro e u2 ⟨rfl, o2⟩; have oo := (OS.out.trans0 o2).alloc (.cells #[.string nm, .bool true, .bool true, .bool false, .int .i64 0] 83); have B3I := BI.out.only oo (by simp); have B3Z := hide (BZ.out.only oo (by simp)); have B3X := hide (BX.out.only oo (by simp)); have O3 := hide (OW.out.trans0 oo); have B3O := Blk.new u2 83 #[.string nm, .bool true, .bool true, .bool false, .int .i64 0]; have i0 := B3I.cell 0; have i1 := B3I.cell 1; have i2 := B3I.cell 2; have i3 := B3I.cell 3; have i4 := B3I.cell 4; have q1 := B3O.cell 1; have q2 := B3O.cell 2; have q3 := B3O.cell 3; have z0 : (u2.alloc (.cells #[.string nm, .bool true, .bool true, .bool false, .int .i64 0] 83)).cell? ⟨X + 1, 0, none⟩ = some (.int .i64 p) := B3Z.out.cell 0; have z1 : (u2.alloc (.cells #[.string nm, .bool true, .bool true, .bool false, .int .i64 0] 83)).cell? ⟨X + 1, 1, none⟩ = some (.int .i64 (R 0)) := B3Z.out.cell 1; have z2 : (u2.alloc (.cells #[.string nm, .bool true, .bool true, .bool false, .int .i64 0] 83)).cell? ⟨X + 1, 2, none⟩ = some (.int .i64 (R 1)) := B3Z.out.cell 2; have z3 : (u2.alloc (.cells #[.string nm, .bool true, .bool true, .bool false, .int .i64 0] 83)).cell? ⟨X + 1, 3, none⟩ = some (.int .i64 (R 2)) := B3Z.out.cell 3; have z4 : (u2.alloc (.cells #[.string nm, .bool true, .bool true, .bool false, .int .i64 0] 83)).cell? ⟨X + 1, 4, none⟩ = some (.int .i64 (R 3)) := B3Z.out.cell 4; have z5 : (u2.alloc (.cells #[.string nm, .bool true, .bool true, .bool false, .int .i64 0] 83)).cell? ⟨X + 1, 5, none⟩ = some (.int .i64 (R 4)) := B3Z.out.cell 5; have z6 : (u2.alloc (.cells #[.string nm, .bool true, .bool true, .bool false, .int .i64 0] 83)).cell? ⟨X + 1, 6, none⟩ = some (.int .i64 (R 5)) := B3Z.out.cell 6; have z7 : (u2.alloc (.cells #[.string nm, .bool true, .bool true, .bool false, .int .i64 0] 83)).cell? ⟨X + 1, 7, none⟩ = some (.int .i64 (R 6)) := B3Z.out.cell 7; have z8 : (u2.alloc (.cells #[.string nm, .bool true, .bool true, .bool false, .int .i64 0] 83)).cell? ⟨X + 1, 8, none⟩ = some (.int .i64 (R 7)) := B3Z.out.cell 8; have fz0 := B3Z.out.frozen 0; clear oo o2 B3I B3O)
    | (go_at_call 82; (with_reducible refine (INd.out _).mono ?_); rintro e w' ⟨rfl, hw⟩; obtain rfl := hw.symm; clear hw)
    | (go_at_call 82; (with_reducible refine (INa.out _).mono ?_); rintro e w' ⟨rfl, hw⟩; obtain rfl := hw.symm; clear hw)
    | (go_at_call 100; clear z0 z1 z2 z3 z4 z5 z6 z7 z8 fz0; refine (does2 2 b imm pw R d a hd ha (X + 1) _ (by have := B3Z.out.set_ 0 (.int .i64 pw); rw [stV_pc] at this; exact this)).mono ?_; rintro e u4 ⟨rfl, bz, oz⟩; have bz := bz; rw [HR2.out, HP2.out] at bz; have OZ := hide oz; have BZ4 := hide bz; have B4X := hide ((B3X.out.far (p := ⟨X + 1, 0, none⟩) (by simp) (.int .i64 pw)).only oz (by simp)); have O4 := hide ((O3.out.mono (T := [X + 1]) (by simp)).setCell (p := ⟨X + 1, 0, none⟩) (.inl (by simp)) (.int .i64 pw)); have z0 : u4.cell? ⟨X + 1, 0, none⟩ = some (.int .i64 p2) := BZ4.out.cell 0; have z1 : u4.cell? ⟨X + 1, 1, none⟩ = some (.int .i64 (R2 0)) := BZ4.out.cell 1; have z2 : u4.cell? ⟨X + 1, 2, none⟩ = some (.int .i64 (R2 1)) := BZ4.out.cell 2; have z3 : u4.cell? ⟨X + 1, 3, none⟩ = some (.int .i64 (R2 2)) := BZ4.out.cell 3; have z4 : u4.cell? ⟨X + 1, 4, none⟩ = some (.int .i64 (R2 3)) := BZ4.out.cell 4; have z5 : u4.cell? ⟨X + 1, 5, none⟩ = some (.int .i64 (R2 4)) := BZ4.out.cell 5; have z6 : u4.cell? ⟨X + 1, 6, none⟩ = some (.int .i64 (R2 5)) := BZ4.out.cell 6; have z7 : u4.cell? ⟨X + 1, 7, none⟩ = some (.int .i64 (R2 6)) := BZ4.out.cell 7; have z8 : u4.cell? ⟨X + 1, 8, none⟩ = some (.int .i64 (R2 7)) := BZ4.out.cell 8; have x0 : u4.cell? ⟨X + 1 + 1, 0, none⟩ = some (.int .i64 0) := B4X.out.cell 0; have y0 := B4X.out.frozen 0; have x1 : u4.cell? ⟨X + 1 + 1, 1, none⟩ = some (.int .i64 0) := B4X.out.cell 1; have y1 := B4X.out.frozen 1; have x2 : u4.cell? ⟨X + 1 + 1, 2, none⟩ = some (.int .i64 0) := B4X.out.cell 2; have y2 := B4X.out.frozen 2; have x3 : u4.cell? ⟨X + 1 + 1, 3, none⟩ = some (.int .i64 0) := B4X.out.cell 3; have y3 := B4X.out.frozen 3; have x4 : u4.cell? ⟨X + 1 + 1, 4, none⟩ = some (.int .i64 0) := B4X.out.cell 4; have y4 := B4X.out.frozen 4; have x5 : u4.cell? ⟨X + 1 + 1, 5, none⟩ = some (.int .i64 0) := B4X.out.cell 5; have y5 := B4X.out.frozen 5; have x6 : u4.cell? ⟨X + 1 + 1, 6, none⟩ = some (.int .i64 0) := B4X.out.cell 6; have y6 := B4X.out.frozen 6; have x7 : u4.cell? ⟨X + 1 + 1, 7, none⟩ = some (.int .i64 0) := B4X.out.cell 7; have y7 := B4X.out.frozen 7; have x8 : u4.cell? ⟨X + 1 + 1, 8, none⟩ = some (.int .i64 0) := B4X.out.cell 8; have y8 := B4X.out.frozen 8; clear bz oz))
  rw [PGF.out]
  have BFF := (((((((((B4X.out).set_ 0 (.int .i64 p2)).set_ 1 (.int .i64 (R2 0))).set_ 2 (.int .i64 (R2 1))).set_ 3 (.int .i64 (R2 2))).set_ 4 (.int .i64 (R2 3))).set_ 5 (.int .i64 (R2 4))).set_ 6 (.int .i64 (R2 5))).set_ 7 (.int .i64 (R2 6))).set_ 8 (.int .i64 (R2 7))
  refine bodyPost_ret (v := .tuple #[.agg (stV p2 (R2)), .bool true]) (results_cell2b Tryz.results45 rfl rfl (load39 (p := p2) (R := R2) (by simpa [stV] using BFF))) rfl ⟨rfl, ?_⟩
  exact (((((((((((((O4.out.trans' OZ.out).mono (T := [X + 1, X + 1 + 1]) (by simp)))).setCell (p := ⟨X + 1 + 1, 0, none⟩) (.inl (by simp)) _).setCell (p := ⟨X + 1 + 1, 1, none⟩) (.inl (by simp)) _).setCell (p := ⟨X + 1 + 1, 2, none⟩) (.inl (by simp)) _).setCell (p := ⟨X + 1 + 1, 3, none⟩) (.inl (by simp)) _).setCell (p := ⟨X + 1 + 1, 4, none⟩) (.inl (by simp)) _).setCell (p := ⟨X + 1 + 1, 5, none⟩) (.inl (by simp)) _).setCell (p := ⟨X + 1 + 1, 6, none⟩) (.inl (by simp)) _).setCell (p := ⟨X + 1 + 1, 7, none⟩) (.inl (by simp)) _).setCell (p := ⟨X + 1 + 1, 8, none⟩) (.inl (by simp)) _).mono (fun x hx => .inr (by have := HX.out; simp at hx; omega))
set_option maxHeartbeats 8000000 in
theorem step3_badd (d : Int) (hd : d < 0 ∨ 7 < d) (a : Int) (b : Int) (imm p : Int) (R : Nat → Int) (w : World) : Calls Tryz.prog 45 #[.agg #[.int .i64 (3), .int .i64 d, .int .i64 a, .int .i64 b, .int .i64 imm], .agg (stV p R)] w fun e w' => e = .returned (stepV ⟨3, d, a, b, imm⟩ p R) ∧ Only [] w w' := by
  have PGF := hide (show stepV ⟨3, d, a, b, imm⟩ p R = .tuple #[.agg (stV p R), .bool false] from by
    have h1 : stepOk ⟨3, d, a, b, imm⟩ = false := by
      rw [Bool.eq_false_iff]
      unfold stepOk inReg
      simp [shp]
      omega
    unfold stepV
    rw [h1]
    rfl)
  obtain ⟨X, hX⟩ : ∃ X, w.heap.size = X := ⟨_, rfl⟩
  obtain ⟨W, hW⟩ : ∃ W, ((w.alloc (.cells #[.int .i64 (3), .int .i64 d, .int .i64 a, .int .i64 b, .int .i64 imm] 25)).alloc (.cells (stV p R) 98)).alloc (.cells #[.int .i64 0, .int .i64 0, .int .i64 0, .int .i64 0, .int .i64 0, .int .i64 0, .int .i64 0, .int .i64 0, .int .i64 0] 98) = W := ⟨_, rfl⟩
  have oW : Only [] w W := by rw [← hW]; exact (((Only.refl [] w).alloc _).alloc _).alloc _
  have bI : Blk W X 25 #[.int .i64 (3), .int .i64 d, .int .i64 a, .int .i64 b, .int .i64 imm] := by rw [← hW, ← hX]; exact ((Blk.new w 25 _).alloc _).alloc _
  have bZ : Blk W (X + 1) 98 (stV p R) := by
    have := (Blk.new (w.alloc (.cells #[.int .i64 (3), .int .i64 d, .int .i64 a, .int .i64 b, .int .i64 imm] 25)) 98 (stV p R)).alloc (.cells #[.int .i64 0, .int .i64 0, .int .i64 0, .int .i64 0, .int .i64 0, .int .i64 0, .int .i64 0, .int .i64 0, .int .i64 0] 98)
    rw [World.size_alloc, hX, hW] at this
    exact this
  have bX : Blk W (X + 1 + 1) 98 #[.int .i64 0, .int .i64 0, .int .i64 0, .int .i64 0, .int .i64 0, .int .i64 0, .int .i64 0, .int .i64 0, .int .i64 0] := by
    have := Blk.new ((w.alloc (.cells #[.int .i64 (3), .int .i64 d, .int .i64 a, .int .i64 b, .int .i64 imm] 25)).alloc (.cells (stV p R) 98)) 98 #[.int .i64 0, .int .i64 0, .int .i64 0, .int .i64 0, .int .i64 0, .int .i64 0, .int .i64 0, .int .i64 0, .int .i64 0]
    rw [World.size_alloc, World.size_alloc, hX, hW] at this
    exact this
  have CI := hide (fun V (ov : Only [] W V) => show V.cell? ⟨X, 0, none⟩ = some (.int .i64 (3)) from (bI.only ov (by simp)).cell 0)
  have DA := hide (fun V => does_any V)
  have HX := hide hX
  have HWX := hide (show X + 3 ≤ W.heap.size by have := bX.lt; omega)
  have OW := hide oW
  have BI := hide bI
  have BZ := hide bZ
  have BX := hide bX
  have LK := hide (fun (V : World) (mb nn : Nat) (h : Mp Tryz.prog 23 V mb (dF 6) nn) => show (Instr.lookup 132 (.map (some mb)) (.int .i64 3) true).run Tryz.prog V = .ok (.tuple #[.func (.func 101) #[] #[], .bool true]) V from by
    obtain ⟨l, hl⟩ := key22 3 (by decide)
    exact (h.look keyed22 Tryz.underlying132 hl (dF_some 6 3 (by omega) (by omega))).2)
  obtain ⟨nm, hnm⟩ : ∃ nm, ByteArray.mk (nmB 3).toArray = nm := ⟨_, rfl⟩
  have OF := hide (fun W => show Calls Tryz.prog 37 #[.int .i64 3] W fun e w' => e = .returned (.tuple #[.agg #[.string nm, .bool true, .bool true, .bool true, .int .i64 0], .bool true]) ∧ Only [] W w' from by rw [← hnm]; exact of_ok 3 (by decide) W)
  have INd := hide (fun W => show Calls Tryz.prog 82 #[.int .i64 d] W fun e w' => e = .returned (.bool false) ∧ w' = W from (inOk_any d W).mono fun e w' ⟨h1, h2⟩ => ⟨by rw [h1]; rcases hd with h | h; (rw [decide_eq_false (show ¬ 0 ≤ d by omega)]; rfl); (rw [decide_eq_false (show ¬ d ≤ 7 by omega), Bool.and_false]), h2⟩)
  skip
  unfold stV at hW
  have HW := hide hW
  clear oW bI bZ bX hX hW
  have hst : stV p R = #[.int .i64 p, .int .i64 (R 0), .int .i64 (R 1), .int .i64 (R 2), .int .i64 (R 3), .int .i64 (R 4), .int .i64 (R 5), .int .i64 (R 6), .int .i64 (R 7)] := rfl
  rw [hst]
  clear hst
  go_enter Tryz.func45, Tryz.ntmps45
  go_wp2_with fail
  rw [HX.out, HW.out]
  refine wp_region_held_drew (S := (fun V => Only [] W V)) (by kernel_rfl) ((Only.refl _ W).drew) (fun hHeld => ?_)
  revert hHeld
  generalize W.drew = u0
  intro hHeld
  obtain ⟨mb, hmb⟩ : ∃ mb, u0.heap.size = mb := ⟨_, rfl⟩
  refine wpAnyH_take (i := 1) (oi := ⟨some 13, _, _, _, _, _⟩) (v := ?vs7_1) rfl (by kernel_rfl) (by kernel_rfl) (by kernel_rfl) (fun _ _ _ h => h) (Or.inl ⟨by rfl, ?hys7_1⟩) (by assumption) ?rests7_1
  case hys7_1 => (intro V hSw; (try dsimp only at hSw); go_simp; first | done | (with_reducible rfl))
  try simp only [Act.put, List.setIfInBounds_toArray, List.set_cons_zero, List.set_cons_succ]
  refine wpAnyH_take (i := 2) (oi := ⟨some 14, _, _, _, _, _⟩) (v := ?vs7_2) rfl (by kernel_rfl) (by kernel_rfl) (by kernel_rfl) (fun _ _ _ h => h) (Or.inl ⟨by rfl, ?hys7_2⟩) (by assumption) ?rests7_2
  case hys7_2 => (intro V hSw; (try dsimp only at hSw); have z := CI.out V hSw; go_simp; first | done | (with_reducible rfl))
  try simp only [Act.put, List.setIfInBounds_toArray, List.set_cons_zero, List.set_cons_succ]
  refine wpAnyH_ready (rs := [0]) (by kernel_rfl) (by simp) ?_
  refine AllReadyH.cons (o := ⟨some 12, _, _, _, _, _⟩) rfl (fun K hK => ?_) (AllReadyH.nil)
  rw [if_pos (by rfl)]
  go_simp
  (with_reducible refine (DA.out _).mono ?_); rintro e u1 ⟨rfl, ⟨nn, MP⟩, o'⟩; rw [hmb] at MP ⊢; have MP := hide MP; have OS := hide ((show Only [] W u0 from hHeld).trans0 o')
  try dsimp only
  refine hK.out _ _ (OS.out) (fun hHeld => ?_)
  clear hK K
  try simp only [Act.put, List.setIfInBounds_toArray, List.set_cons_zero, List.set_cons_succ]
  refine wpAnyH_ready (rs := [3]) (by kernel_rfl) (by simp) ?_
  refine AllReadyH.cons (o := ⟨some 15, _, _, _, _, _⟩) rfl (fun K hK => ?_) (AllReadyH.nil)
  rw [if_pos (by rfl)]
  have z := LK.out _ _ _ MP.out
  go_simp
  try dsimp only
  refine hK.out _ _ ((show Only [] W u1 from hHeld)) (fun hHeld => ?_)
  clear hK K
  try simp only [Act.put, List.setIfInBounds_toArray, List.set_cons_zero, List.set_cons_succ]
  refine wpAnyH_take (i := 4) (oi := ⟨some 11, _, _, _, _, _⟩) (v := ?vs7_3) rfl (by kernel_rfl) (by kernel_rfl) (by kernel_rfl) (fun _ _ _ h => h) (Or.inl ⟨by rfl, ?hys7_3⟩) (by assumption) ?rests7_3
  case hys7_3 => (intro V hSw; (try dsimp only at hSw); go_simp; first | done | (with_reducible rfl))
  try simp only [Act.put, List.setIfInBounds_toArray, List.set_cons_zero, List.set_cons_succ]
  refine wpAnyH_take (i := 5) (oi := ⟨some 16, _, _, _, _, _⟩) (v := ?vs7_4) rfl (by kernel_rfl) (by kernel_rfl) (by kernel_rfl) (fun _ _ _ h => h) (Or.inl ⟨by rfl, ?hys7_4⟩) (by assumption) ?rests7_4
  case hys7_4 => (intro V hSw; (try dsimp only at hSw); go_simp; first | done | (with_reducible rfl))
  try simp only [Act.put, List.setIfInBounds_toArray, List.set_cons_zero, List.set_cons_succ]
  refine wpAnyH_take (i := 6) (oi := ⟨some 17, _, _, _, _, _⟩) (v := ?vs7_5) rfl (by kernel_rfl) (by kernel_rfl) (by kernel_rfl) (fun _ _ _ h => h) (Or.inl ⟨by rfl, ?hys7_5⟩) (by assumption) ?rests7_5
  case hys7_5 => (intro V hSw; (try dsimp only at hSw); go_simp; first | done | (with_reducible rfl))
  try simp only [Act.put, List.setIfInBounds_toArray, List.set_cons_zero, List.set_cons_succ]
  refine wpAnyH_take (i := 7) (oi := ⟨some 6, _, _, _, _, _⟩) (v := ?vs7_6) rfl (by kernel_rfl) (by kernel_rfl) (by kernel_rfl) (fun _ _ _ h => h) (Or.inl ⟨by rfl, ?hys7_6⟩) (by assumption) ?rests7_6
  case hys7_6 => (intro V hSw; (try dsimp only at hSw); go_simp; first | done | (with_reducible rfl))
  try simp only [Act.put, List.setIfInBounds_toArray, List.set_cons_zero, List.set_cons_succ]
  refine wpAnyH_take (i := 8) (oi := ⟨some 7, _, _, _, _, _⟩) (v := ?vs7_7) rfl (by kernel_rfl) (by kernel_rfl) (by kernel_rfl) (fun _ _ _ h => h) (Or.inl ⟨by rfl, ?hys7_7⟩) (by assumption) ?rests7_7
  case hys7_7 => (intro V hSw; (try dsimp only at hSw); go_simp; first | done | (with_reducible rfl))
  try simp only [Act.put, List.setIfInBounds_toArray, List.set_cons_zero, List.set_cons_succ]
  refine wpAnyH_done (by kernel_rfl) ?_ _
  have OS := hide (show Only [] W u1 from hHeld)
  have t0 := (BI.out.only OS.out (by simp)).cell 0
  clear hHeld hmb MP LK DA CI
  go_wp2_with (first
    | (go_at_call 37; (with_reducible refine (OF.out _).mono ?_); rintro e u2 ⟨rfl, o2⟩; have oo := (OS.out.trans0 o2).alloc (.cells #[.string nm, .bool true, .bool true, .bool true, .int .i64 0] 83); have B3I := BI.out.only oo (by simp); have B3Z := hide (BZ.out.only oo (by simp)); have B3X := hide (BX.out.only oo (by simp)); have O3 := hide (OW.out.trans0 oo); have B3O := Blk.new u2 83 #[.string nm, .bool true, .bool true, .bool true, .int .i64 0]; have i0 := B3I.cell 0; have i1 := B3I.cell 1; have i2 := B3I.cell 2; have i3 := B3I.cell 3; have i4 := B3I.cell 4; have q1 := B3O.cell 1; have q2 := B3O.cell 2; have q3 := B3O.cell 3; have z0 : (u2.alloc (.cells #[.string nm, .bool true, .bool true, .bool true, .int .i64 0] 83)).cell? ⟨X + 1, 0, none⟩ = some (.int .i64 p) := B3Z.out.cell 0; have z1 : (u2.alloc (.cells #[.string nm, .bool true, .bool true, .bool true, .int .i64 0] 83)).cell? ⟨X + 1, 1, none⟩ = some (.int .i64 (R 0)) := B3Z.out.cell 1; have z2 : (u2.alloc (.cells #[.string nm, .bool true, .bool true, .bool true, .int .i64 0] 83)).cell? ⟨X + 1, 2, none⟩ = some (.int .i64 (R 1)) := B3Z.out.cell 2; have z3 : (u2.alloc (.cells #[.string nm, .bool true, .bool true, .bool true, .int .i64 0] 83)).cell? ⟨X + 1, 3, none⟩ = some (.int .i64 (R 2)) := B3Z.out.cell 3; have z4 : (u2.alloc (.cells #[.string nm, .bool true, .bool true, .bool true, .int .i64 0] 83)).cell? ⟨X + 1, 4, none⟩ = some (.int .i64 (R 3)) := B3Z.out.cell 4; have z5 : (u2.alloc (.cells #[.string nm, .bool true, .bool true, .bool true, .int .i64 0] 83)).cell? ⟨X + 1, 5, none⟩ = some (.int .i64 (R 4)) := B3Z.out.cell 5; have z6 : (u2.alloc (.cells #[.string nm, .bool true, .bool true, .bool true, .int .i64 0] 83)).cell? ⟨X + 1, 6, none⟩ = some (.int .i64 (R 5)) := B3Z.out.cell 6; have z7 : (u2.alloc (.cells #[.string nm, .bool true, .bool true, .bool true, .int .i64 0] 83)).cell? ⟨X + 1, 7, none⟩ = some (.int .i64 (R 6)) := B3Z.out.cell 7; have z8 : (u2.alloc (.cells #[.string nm, .bool true, .bool true, .bool true, .int .i64 0] 83)).cell? ⟨X + 1, 8, none⟩ = some (.int .i64 (R 7)) := B3Z.out.cell 8; have x0 : (u2.alloc (.cells #[.string nm, .bool true, .bool true, .bool true, .int .i64 0] 83)).cell? ⟨X + 1 + 1, 0, none⟩ = some (.int .i64 0) := B3X.out.cell 0; have y0 := B3X.out.frozen 0; have x1 : (u2.alloc (.cells #[.string nm, .bool true, .bool true, .bool true, .int .i64 0] 83)).cell? ⟨X + 1 + 1, 1, none⟩ = some (.int .i64 0) := B3X.out.cell 1; have y1 := B3X.out.frozen 1; have x2 : (u2.alloc (.cells #[.string nm, .bool true, .bool true, .bool true, .int .i64 0] 83)).cell? ⟨X + 1 + 1, 2, none⟩ = some (.int .i64 0) := B3X.out.cell 2; have y2 := B3X.out.frozen 2; have x3 : (u2.alloc (.cells #[.string nm, .bool true, .bool true, .bool true, .int .i64 0] 83)).cell? ⟨X + 1 + 1, 3, none⟩ = some (.int .i64 0) := B3X.out.cell 3; have y3 := B3X.out.frozen 3; have x4 : (u2.alloc (.cells #[.string nm, .bool true, .bool true, .bool true, .int .i64 0] 83)).cell? ⟨X + 1 + 1, 4, none⟩ = some (.int .i64 0) := B3X.out.cell 4; have y4 := B3X.out.frozen 4; have x5 : (u2.alloc (.cells #[.string nm, .bool true, .bool true, .bool true, .int .i64 0] 83)).cell? ⟨X + 1 + 1, 5, none⟩ = some (.int .i64 0) := B3X.out.cell 5; have y5 := B3X.out.frozen 5; have x6 : (u2.alloc (.cells #[.string nm, .bool true, .bool true, .bool true, .int .i64 0] 83)).cell? ⟨X + 1 + 1, 6, none⟩ = some (.int .i64 0) := B3X.out.cell 6; have y6 := B3X.out.frozen 6; have x7 : (u2.alloc (.cells #[.string nm, .bool true, .bool true, .bool true, .int .i64 0] 83)).cell? ⟨X + 1 + 1, 7, none⟩ = some (.int .i64 0) := B3X.out.cell 7; have y7 := B3X.out.frozen 7; have x8 : (u2.alloc (.cells #[.string nm, .bool true, .bool true, .bool true, .int .i64 0] 83)).cell? ⟨X + 1 + 1, 8, none⟩ = some (.int .i64 0) := B3X.out.cell 8; have y8 := B3X.out.frozen 8; clear oo o2 B3I B3O)
    | (go_at_call 82; (with_reducible refine (INd.out _).mono ?_); rintro e w' ⟨rfl, hw⟩; obtain rfl := hw.symm; clear hw))
  rw [PGF.out]
  have BFF := (((((((((B3X.out).set_ 0 (.int .i64 p)).set_ 1 (.int .i64 (R 0))).set_ 2 (.int .i64 (R 1))).set_ 3 (.int .i64 (R 2))).set_ 4 (.int .i64 (R 3))).set_ 5 (.int .i64 (R 4))).set_ 6 (.int .i64 (R 5))).set_ 7 (.int .i64 (R 6))).set_ 8 (.int .i64 (R 7))
  refine bodyPost_ret (v := .tuple #[.agg (stV p (R)), .bool false]) (results_cell2b Tryz.results45 rfl rfl (load39 (p := p) (R := R) (by simpa [stV] using BFF))) rfl ⟨rfl, ?_⟩
  exact (((((((((((O3.out.mono (T := [X + 1 + 1]) (by simp))).setCell (p := ⟨X + 1 + 1, 0, none⟩) (.inl (by simp)) _).setCell (p := ⟨X + 1 + 1, 1, none⟩) (.inl (by simp)) _).setCell (p := ⟨X + 1 + 1, 2, none⟩) (.inl (by simp)) _).setCell (p := ⟨X + 1 + 1, 3, none⟩) (.inl (by simp)) _).setCell (p := ⟨X + 1 + 1, 4, none⟩) (.inl (by simp)) _).setCell (p := ⟨X + 1 + 1, 5, none⟩) (.inl (by simp)) _).setCell (p := ⟨X + 1 + 1, 6, none⟩) (.inl (by simp)) _).setCell (p := ⟨X + 1 + 1, 7, none⟩) (.inl (by simp)) _).setCell (p := ⟨X + 1 + 1, 8, none⟩) (.inl (by simp)) _).mono (fun x hx => .inr (by have := HX.out; simp at hx; omega))
set_option maxHeartbeats 8000000 in
theorem step3_bada (d : Nat) (hd : d < 8) (a : Int) (ha : a < 0 ∨ 7 < a) (b : Int) (imm p : Int) (R : Nat → Int) (w : World) : Calls Tryz.prog 45 #[.agg #[.int .i64 (3), .int .i64 ((d : Nat) : Int), .int .i64 a, .int .i64 b, .int .i64 imm], .agg (stV p R)] w fun e w' => e = .returned (stepV ⟨3, ((d : Nat) : Int), a, b, imm⟩ p R) ∧ Only [] w w' := by
  have PGF := hide (show stepV ⟨3, ((d : Nat) : Int), a, b, imm⟩ p R = .tuple #[.agg (stV p R), .bool false] from by
    have h1 : stepOk ⟨3, ((d : Nat) : Int), a, b, imm⟩ = false := by
      rw [Bool.eq_false_iff]
      unfold stepOk inReg
      simp [shp]
      omega
    unfold stepV
    rw [h1]
    rfl)
  obtain ⟨X, hX⟩ : ∃ X, w.heap.size = X := ⟨_, rfl⟩
  obtain ⟨W, hW⟩ : ∃ W, ((w.alloc (.cells #[.int .i64 (3), .int .i64 ((d : Nat) : Int), .int .i64 a, .int .i64 b, .int .i64 imm] 25)).alloc (.cells (stV p R) 98)).alloc (.cells #[.int .i64 0, .int .i64 0, .int .i64 0, .int .i64 0, .int .i64 0, .int .i64 0, .int .i64 0, .int .i64 0, .int .i64 0] 98) = W := ⟨_, rfl⟩
  have oW : Only [] w W := by rw [← hW]; exact (((Only.refl [] w).alloc _).alloc _).alloc _
  have bI : Blk W X 25 #[.int .i64 (3), .int .i64 ((d : Nat) : Int), .int .i64 a, .int .i64 b, .int .i64 imm] := by rw [← hW, ← hX]; exact ((Blk.new w 25 _).alloc _).alloc _
  have bZ : Blk W (X + 1) 98 (stV p R) := by
    have := (Blk.new (w.alloc (.cells #[.int .i64 (3), .int .i64 ((d : Nat) : Int), .int .i64 a, .int .i64 b, .int .i64 imm] 25)) 98 (stV p R)).alloc (.cells #[.int .i64 0, .int .i64 0, .int .i64 0, .int .i64 0, .int .i64 0, .int .i64 0, .int .i64 0, .int .i64 0, .int .i64 0] 98)
    rw [World.size_alloc, hX, hW] at this
    exact this
  have bX : Blk W (X + 1 + 1) 98 #[.int .i64 0, .int .i64 0, .int .i64 0, .int .i64 0, .int .i64 0, .int .i64 0, .int .i64 0, .int .i64 0, .int .i64 0] := by
    have := Blk.new ((w.alloc (.cells #[.int .i64 (3), .int .i64 ((d : Nat) : Int), .int .i64 a, .int .i64 b, .int .i64 imm] 25)).alloc (.cells (stV p R) 98)) 98 #[.int .i64 0, .int .i64 0, .int .i64 0, .int .i64 0, .int .i64 0, .int .i64 0, .int .i64 0, .int .i64 0, .int .i64 0]
    rw [World.size_alloc, World.size_alloc, hX, hW] at this
    exact this
  have CI := hide (fun V (ov : Only [] W V) => show V.cell? ⟨X, 0, none⟩ = some (.int .i64 (3)) from (bI.only ov (by simp)).cell 0)
  have DA := hide (fun V => does_any V)
  have HX := hide hX
  have HWX := hide (show X + 3 ≤ W.heap.size by have := bX.lt; omega)
  have OW := hide oW
  have BI := hide bI
  have BZ := hide bZ
  have BX := hide bX
  have LK := hide (fun (V : World) (mb nn : Nat) (h : Mp Tryz.prog 23 V mb (dF 6) nn) => show (Instr.lookup 132 (.map (some mb)) (.int .i64 3) true).run Tryz.prog V = .ok (.tuple #[.func (.func 101) #[] #[], .bool true]) V from by
    obtain ⟨l, hl⟩ := key22 3 (by decide)
    exact (h.look keyed22 Tryz.underlying132 hl (dF_some 6 3 (by omega) (by omega))).2)
  obtain ⟨nm, hnm⟩ : ∃ nm, ByteArray.mk (nmB 3).toArray = nm := ⟨_, rfl⟩
  have OF := hide (fun W => show Calls Tryz.prog 37 #[.int .i64 3] W fun e w' => e = .returned (.tuple #[.agg #[.string nm, .bool true, .bool true, .bool true, .int .i64 0], .bool true]) ∧ Only [] W w' from by rw [← hnm]; exact of_ok 3 (by decide) W)
  have INd := hide (fun W => show Calls Tryz.prog 82 #[.int .i64 ((d : Nat) : Int)] W fun e w' => e = .returned (.bool true) ∧ w' = W from (inOk_any ((d : Nat) : Int) W).mono fun e w' ⟨h1, h2⟩ => ⟨by rw [h1, decide_eq_true (show (0 : Int) ≤ d by omega), decide_eq_true (show (d : Int) ≤ 7 by omega)]; rfl, h2⟩)
  have INa := hide (fun W => show Calls Tryz.prog 82 #[.int .i64 a] W fun e w' => e = .returned (.bool false) ∧ w' = W from (inOk_any a W).mono fun e w' ⟨h1, h2⟩ => ⟨by rw [h1]; rcases ha with h | h; (rw [decide_eq_false (show ¬ 0 ≤ a by omega)]; rfl); (rw [decide_eq_false (show ¬ a ≤ 7 by omega), Bool.and_false]), h2⟩)
  skip
  unfold stV at hW
  have HW := hide hW
  clear oW bI bZ bX hX hW
  have hst : stV p R = #[.int .i64 p, .int .i64 (R 0), .int .i64 (R 1), .int .i64 (R 2), .int .i64 (R 3), .int .i64 (R 4), .int .i64 (R 5), .int .i64 (R 6), .int .i64 (R 7)] := rfl
  rw [hst]
  clear hst
  go_enter Tryz.func45, Tryz.ntmps45
  go_wp2_with fail
  rw [HX.out, HW.out]
  refine wp_region_held_drew (S := (fun V => Only [] W V)) (by kernel_rfl) ((Only.refl _ W).drew) (fun hHeld => ?_)
  revert hHeld
  generalize W.drew = u0
  intro hHeld
  obtain ⟨mb, hmb⟩ : ∃ mb, u0.heap.size = mb := ⟨_, rfl⟩
  refine wpAnyH_take (i := 1) (oi := ⟨some 13, _, _, _, _, _⟩) (v := ?vs8_1) rfl (by kernel_rfl) (by kernel_rfl) (by kernel_rfl) (fun _ _ _ h => h) (Or.inl ⟨by rfl, ?hys8_1⟩) (by assumption) ?rests8_1
  case hys8_1 => (intro V hSw; (try dsimp only at hSw); go_simp; first | done | (with_reducible rfl))
  try simp only [Act.put, List.setIfInBounds_toArray, List.set_cons_zero, List.set_cons_succ]
  refine wpAnyH_take (i := 2) (oi := ⟨some 14, _, _, _, _, _⟩) (v := ?vs8_2) rfl (by kernel_rfl) (by kernel_rfl) (by kernel_rfl) (fun _ _ _ h => h) (Or.inl ⟨by rfl, ?hys8_2⟩) (by assumption) ?rests8_2
  case hys8_2 => (intro V hSw; (try dsimp only at hSw); have z := CI.out V hSw; go_simp; first | done | (with_reducible rfl))
  try simp only [Act.put, List.setIfInBounds_toArray, List.set_cons_zero, List.set_cons_succ]
  refine wpAnyH_ready (rs := [0]) (by kernel_rfl) (by simp) ?_
  refine AllReadyH.cons (o := ⟨some 12, _, _, _, _, _⟩) rfl (fun K hK => ?_) (AllReadyH.nil)
  rw [if_pos (by rfl)]
  go_simp
  (with_reducible refine (DA.out _).mono ?_); rintro e u1 ⟨rfl, ⟨nn, MP⟩, o'⟩; rw [hmb] at MP ⊢; have MP := hide MP; have OS := hide ((show Only [] W u0 from hHeld).trans0 o')
  try dsimp only
  refine hK.out _ _ (OS.out) (fun hHeld => ?_)
  clear hK K
  try simp only [Act.put, List.setIfInBounds_toArray, List.set_cons_zero, List.set_cons_succ]
  refine wpAnyH_ready (rs := [3]) (by kernel_rfl) (by simp) ?_
  refine AllReadyH.cons (o := ⟨some 15, _, _, _, _, _⟩) rfl (fun K hK => ?_) (AllReadyH.nil)
  rw [if_pos (by rfl)]
  have z := LK.out _ _ _ MP.out
  go_simp
  try dsimp only
  refine hK.out _ _ ((show Only [] W u1 from hHeld)) (fun hHeld => ?_)
  clear hK K
  try simp only [Act.put, List.setIfInBounds_toArray, List.set_cons_zero, List.set_cons_succ]
  refine wpAnyH_take (i := 4) (oi := ⟨some 11, _, _, _, _, _⟩) (v := ?vs8_3) rfl (by kernel_rfl) (by kernel_rfl) (by kernel_rfl) (fun _ _ _ h => h) (Or.inl ⟨by rfl, ?hys8_3⟩) (by assumption) ?rests8_3
  case hys8_3 => (intro V hSw; (try dsimp only at hSw); go_simp; first | done | (with_reducible rfl))
  try simp only [Act.put, List.setIfInBounds_toArray, List.set_cons_zero, List.set_cons_succ]
  refine wpAnyH_take (i := 5) (oi := ⟨some 16, _, _, _, _, _⟩) (v := ?vs8_4) rfl (by kernel_rfl) (by kernel_rfl) (by kernel_rfl) (fun _ _ _ h => h) (Or.inl ⟨by rfl, ?hys8_4⟩) (by assumption) ?rests8_4
  case hys8_4 => (intro V hSw; (try dsimp only at hSw); go_simp; first | done | (with_reducible rfl))
  try simp only [Act.put, List.setIfInBounds_toArray, List.set_cons_zero, List.set_cons_succ]
  refine wpAnyH_take (i := 6) (oi := ⟨some 17, _, _, _, _, _⟩) (v := ?vs8_5) rfl (by kernel_rfl) (by kernel_rfl) (by kernel_rfl) (fun _ _ _ h => h) (Or.inl ⟨by rfl, ?hys8_5⟩) (by assumption) ?rests8_5
  case hys8_5 => (intro V hSw; (try dsimp only at hSw); go_simp; first | done | (with_reducible rfl))
  try simp only [Act.put, List.setIfInBounds_toArray, List.set_cons_zero, List.set_cons_succ]
  refine wpAnyH_take (i := 7) (oi := ⟨some 6, _, _, _, _, _⟩) (v := ?vs8_6) rfl (by kernel_rfl) (by kernel_rfl) (by kernel_rfl) (fun _ _ _ h => h) (Or.inl ⟨by rfl, ?hys8_6⟩) (by assumption) ?rests8_6
  case hys8_6 => (intro V hSw; (try dsimp only at hSw); go_simp; first | done | (with_reducible rfl))
  try simp only [Act.put, List.setIfInBounds_toArray, List.set_cons_zero, List.set_cons_succ]
  refine wpAnyH_take (i := 8) (oi := ⟨some 7, _, _, _, _, _⟩) (v := ?vs8_7) rfl (by kernel_rfl) (by kernel_rfl) (by kernel_rfl) (fun _ _ _ h => h) (Or.inl ⟨by rfl, ?hys8_7⟩) (by assumption) ?rests8_7
  case hys8_7 => (intro V hSw; (try dsimp only at hSw); go_simp; first | done | (with_reducible rfl))
  try simp only [Act.put, List.setIfInBounds_toArray, List.set_cons_zero, List.set_cons_succ]
  refine wpAnyH_done (by kernel_rfl) ?_ _
  have OS := hide (show Only [] W u1 from hHeld)
  have t0 := (BI.out.only OS.out (by simp)).cell 0
  clear hHeld hmb MP LK DA CI
  go_wp2_with (first
    | (go_at_call 37; (with_reducible refine (OF.out _).mono ?_); rintro e u2 ⟨rfl, o2⟩; have oo := (OS.out.trans0 o2).alloc (.cells #[.string nm, .bool true, .bool true, .bool true, .int .i64 0] 83); have B3I := BI.out.only oo (by simp); have B3Z := hide (BZ.out.only oo (by simp)); have B3X := hide (BX.out.only oo (by simp)); have O3 := hide (OW.out.trans0 oo); have B3O := Blk.new u2 83 #[.string nm, .bool true, .bool true, .bool true, .int .i64 0]; have i0 := B3I.cell 0; have i1 := B3I.cell 1; have i2 := B3I.cell 2; have i3 := B3I.cell 3; have i4 := B3I.cell 4; have q1 := B3O.cell 1; have q2 := B3O.cell 2; have q3 := B3O.cell 3; have z0 : (u2.alloc (.cells #[.string nm, .bool true, .bool true, .bool true, .int .i64 0] 83)).cell? ⟨X + 1, 0, none⟩ = some (.int .i64 p) := B3Z.out.cell 0; have z1 : (u2.alloc (.cells #[.string nm, .bool true, .bool true, .bool true, .int .i64 0] 83)).cell? ⟨X + 1, 1, none⟩ = some (.int .i64 (R 0)) := B3Z.out.cell 1; have z2 : (u2.alloc (.cells #[.string nm, .bool true, .bool true, .bool true, .int .i64 0] 83)).cell? ⟨X + 1, 2, none⟩ = some (.int .i64 (R 1)) := B3Z.out.cell 2; have z3 : (u2.alloc (.cells #[.string nm, .bool true, .bool true, .bool true, .int .i64 0] 83)).cell? ⟨X + 1, 3, none⟩ = some (.int .i64 (R 2)) := B3Z.out.cell 3; have z4 : (u2.alloc (.cells #[.string nm, .bool true, .bool true, .bool true, .int .i64 0] 83)).cell? ⟨X + 1, 4, none⟩ = some (.int .i64 (R 3)) := B3Z.out.cell 4; have z5 : (u2.alloc (.cells #[.string nm, .bool true, .bool true, .bool true, .int .i64 0] 83)).cell? ⟨X + 1, 5, none⟩ = some (.int .i64 (R 4)) := B3Z.out.cell 5; have z6 : (u2.alloc (.cells #[.string nm, .bool true, .bool true, .bool true, .int .i64 0] 83)).cell? ⟨X + 1, 6, none⟩ = some (.int .i64 (R 5)) := B3Z.out.cell 6; have z7 : (u2.alloc (.cells #[.string nm, .bool true, .bool true, .bool true, .int .i64 0] 83)).cell? ⟨X + 1, 7, none⟩ = some (.int .i64 (R 6)) := B3Z.out.cell 7; have z8 : (u2.alloc (.cells #[.string nm, .bool true, .bool true, .bool true, .int .i64 0] 83)).cell? ⟨X + 1, 8, none⟩ = some (.int .i64 (R 7)) := B3Z.out.cell 8; have x0 : (u2.alloc (.cells #[.string nm, .bool true, .bool true, .bool true, .int .i64 0] 83)).cell? ⟨X + 1 + 1, 0, none⟩ = some (.int .i64 0) := B3X.out.cell 0; have y0 := B3X.out.frozen 0; have x1 : (u2.alloc (.cells #[.string nm, .bool true, .bool true, .bool true, .int .i64 0] 83)).cell? ⟨X + 1 + 1, 1, none⟩ = some (.int .i64 0) := B3X.out.cell 1; have y1 := B3X.out.frozen 1; have x2 : (u2.alloc (.cells #[.string nm, .bool true, .bool true, .bool true, .int .i64 0] 83)).cell? ⟨X + 1 + 1, 2, none⟩ = some (.int .i64 0) := B3X.out.cell 2; have y2 := B3X.out.frozen 2; have x3 : (u2.alloc (.cells #[.string nm, .bool true, .bool true, .bool true, .int .i64 0] 83)).cell? ⟨X + 1 + 1, 3, none⟩ = some (.int .i64 0) := B3X.out.cell 3; have y3 := B3X.out.frozen 3; have x4 : (u2.alloc (.cells #[.string nm, .bool true, .bool true, .bool true, .int .i64 0] 83)).cell? ⟨X + 1 + 1, 4, none⟩ = some (.int .i64 0) := B3X.out.cell 4; have y4 := B3X.out.frozen 4; have x5 : (u2.alloc (.cells #[.string nm, .bool true, .bool true, .bool true, .int .i64 0] 83)).cell? ⟨X + 1 + 1, 5, none⟩ = some (.int .i64 0) := B3X.out.cell 5; have y5 := B3X.out.frozen 5; have x6 : (u2.alloc (.cells #[.string nm, .bool true, .bool true, .bool true, .int .i64 0] 83)).cell? ⟨X + 1 + 1, 6, none⟩ = some (.int .i64 0) := B3X.out.cell 6; have y6 := B3X.out.frozen 6; have x7 : (u2.alloc (.cells #[.string nm, .bool true, .bool true, .bool true, .int .i64 0] 83)).cell? ⟨X + 1 + 1, 7, none⟩ = some (.int .i64 0) := B3X.out.cell 7; have y7 := B3X.out.frozen 7; have x8 : (u2.alloc (.cells #[.string nm, .bool true, .bool true, .bool true, .int .i64 0] 83)).cell? ⟨X + 1 + 1, 8, none⟩ = some (.int .i64 0) := B3X.out.cell 8; have y8 := B3X.out.frozen 8; clear oo o2 B3I B3O)
    | (go_at_call 82; (with_reducible refine (INd.out _).mono ?_); rintro e w' ⟨rfl, hw⟩; obtain rfl := hw.symm; clear hw)
    | (go_at_call 82; (with_reducible refine (INa.out _).mono ?_); rintro e w' ⟨rfl, hw⟩; obtain rfl := hw.symm; clear hw))
  rw [PGF.out]
  have BFF := (((((((((B3X.out).set_ 0 (.int .i64 p)).set_ 1 (.int .i64 (R 0))).set_ 2 (.int .i64 (R 1))).set_ 3 (.int .i64 (R 2))).set_ 4 (.int .i64 (R 3))).set_ 5 (.int .i64 (R 4))).set_ 6 (.int .i64 (R 5))).set_ 7 (.int .i64 (R 6))).set_ 8 (.int .i64 (R 7))
  refine bodyPost_ret (v := .tuple #[.agg (stV p (R)), .bool false]) (results_cell2b Tryz.results45 rfl rfl (load39 (p := p) (R := R) (by simpa [stV] using BFF))) rfl ⟨rfl, ?_⟩
  exact (((((((((((O3.out.mono (T := [X + 1 + 1]) (by simp))).setCell (p := ⟨X + 1 + 1, 0, none⟩) (.inl (by simp)) _).setCell (p := ⟨X + 1 + 1, 1, none⟩) (.inl (by simp)) _).setCell (p := ⟨X + 1 + 1, 2, none⟩) (.inl (by simp)) _).setCell (p := ⟨X + 1 + 1, 3, none⟩) (.inl (by simp)) _).setCell (p := ⟨X + 1 + 1, 4, none⟩) (.inl (by simp)) _).setCell (p := ⟨X + 1 + 1, 5, none⟩) (.inl (by simp)) _).setCell (p := ⟨X + 1 + 1, 6, none⟩) (.inl (by simp)) _).setCell (p := ⟨X + 1 + 1, 7, none⟩) (.inl (by simp)) _).setCell (p := ⟨X + 1 + 1, 8, none⟩) (.inl (by simp)) _).mono (fun x hx => .inr (by have := HX.out; simp at hx; omega))
set_option maxHeartbeats 8000000 in
theorem step3_badb (d : Nat) (hd : d < 8) (a : Nat) (ha : a < 8) (b : Int) (hb : b < 0 ∨ 7 < b) (imm p : Int) (R : Nat → Int) (w : World) : Calls Tryz.prog 45 #[.agg #[.int .i64 (3), .int .i64 ((d : Nat) : Int), .int .i64 ((a : Nat) : Int), .int .i64 b, .int .i64 imm], .agg (stV p R)] w fun e w' => e = .returned (stepV ⟨3, ((d : Nat) : Int), ((a : Nat) : Int), b, imm⟩ p R) ∧ Only [] w w' := by
  have PGF := hide (show stepV ⟨3, ((d : Nat) : Int), ((a : Nat) : Int), b, imm⟩ p R = .tuple #[.agg (stV p R), .bool false] from by
    have h1 : stepOk ⟨3, ((d : Nat) : Int), ((a : Nat) : Int), b, imm⟩ = false := by
      rw [Bool.eq_false_iff]
      unfold stepOk inReg
      simp [shp]
      omega
    unfold stepV
    rw [h1]
    rfl)
  obtain ⟨X, hX⟩ : ∃ X, w.heap.size = X := ⟨_, rfl⟩
  obtain ⟨W, hW⟩ : ∃ W, ((w.alloc (.cells #[.int .i64 (3), .int .i64 ((d : Nat) : Int), .int .i64 ((a : Nat) : Int), .int .i64 b, .int .i64 imm] 25)).alloc (.cells (stV p R) 98)).alloc (.cells #[.int .i64 0, .int .i64 0, .int .i64 0, .int .i64 0, .int .i64 0, .int .i64 0, .int .i64 0, .int .i64 0, .int .i64 0] 98) = W := ⟨_, rfl⟩
  have oW : Only [] w W := by rw [← hW]; exact (((Only.refl [] w).alloc _).alloc _).alloc _
  have bI : Blk W X 25 #[.int .i64 (3), .int .i64 ((d : Nat) : Int), .int .i64 ((a : Nat) : Int), .int .i64 b, .int .i64 imm] := by rw [← hW, ← hX]; exact ((Blk.new w 25 _).alloc _).alloc _
  have bZ : Blk W (X + 1) 98 (stV p R) := by
    have := (Blk.new (w.alloc (.cells #[.int .i64 (3), .int .i64 ((d : Nat) : Int), .int .i64 ((a : Nat) : Int), .int .i64 b, .int .i64 imm] 25)) 98 (stV p R)).alloc (.cells #[.int .i64 0, .int .i64 0, .int .i64 0, .int .i64 0, .int .i64 0, .int .i64 0, .int .i64 0, .int .i64 0, .int .i64 0] 98)
    rw [World.size_alloc, hX, hW] at this
    exact this
  have bX : Blk W (X + 1 + 1) 98 #[.int .i64 0, .int .i64 0, .int .i64 0, .int .i64 0, .int .i64 0, .int .i64 0, .int .i64 0, .int .i64 0, .int .i64 0] := by
    have := Blk.new ((w.alloc (.cells #[.int .i64 (3), .int .i64 ((d : Nat) : Int), .int .i64 ((a : Nat) : Int), .int .i64 b, .int .i64 imm] 25)).alloc (.cells (stV p R) 98)) 98 #[.int .i64 0, .int .i64 0, .int .i64 0, .int .i64 0, .int .i64 0, .int .i64 0, .int .i64 0, .int .i64 0, .int .i64 0]
    rw [World.size_alloc, World.size_alloc, hX, hW] at this
    exact this
  have CI := hide (fun V (ov : Only [] W V) => show V.cell? ⟨X, 0, none⟩ = some (.int .i64 (3)) from (bI.only ov (by simp)).cell 0)
  have DA := hide (fun V => does_any V)
  have HX := hide hX
  have HWX := hide (show X + 3 ≤ W.heap.size by have := bX.lt; omega)
  have OW := hide oW
  have BI := hide bI
  have BZ := hide bZ
  have BX := hide bX
  have LK := hide (fun (V : World) (mb nn : Nat) (h : Mp Tryz.prog 23 V mb (dF 6) nn) => show (Instr.lookup 132 (.map (some mb)) (.int .i64 3) true).run Tryz.prog V = .ok (.tuple #[.func (.func 101) #[] #[], .bool true]) V from by
    obtain ⟨l, hl⟩ := key22 3 (by decide)
    exact (h.look keyed22 Tryz.underlying132 hl (dF_some 6 3 (by omega) (by omega))).2)
  obtain ⟨nm, hnm⟩ : ∃ nm, ByteArray.mk (nmB 3).toArray = nm := ⟨_, rfl⟩
  have OF := hide (fun W => show Calls Tryz.prog 37 #[.int .i64 3] W fun e w' => e = .returned (.tuple #[.agg #[.string nm, .bool true, .bool true, .bool true, .int .i64 0], .bool true]) ∧ Only [] W w' from by rw [← hnm]; exact of_ok 3 (by decide) W)
  have INd := hide (fun W => show Calls Tryz.prog 82 #[.int .i64 ((d : Nat) : Int)] W fun e w' => e = .returned (.bool true) ∧ w' = W from (inOk_any ((d : Nat) : Int) W).mono fun e w' ⟨h1, h2⟩ => ⟨by rw [h1, decide_eq_true (show (0 : Int) ≤ d by omega), decide_eq_true (show (d : Int) ≤ 7 by omega)]; rfl, h2⟩)
  have INa := hide (fun W => show Calls Tryz.prog 82 #[.int .i64 ((a : Nat) : Int)] W fun e w' => e = .returned (.bool true) ∧ w' = W from (inOk_any ((a : Nat) : Int) W).mono fun e w' ⟨h1, h2⟩ => ⟨by rw [h1, decide_eq_true (show (0 : Int) ≤ a by omega), decide_eq_true (show (a : Int) ≤ 7 by omega)]; rfl, h2⟩)
  have INb := hide (fun W => show Calls Tryz.prog 82 #[.int .i64 b] W fun e w' => e = .returned (.bool false) ∧ w' = W from (inOk_any b W).mono fun e w' ⟨h1, h2⟩ => ⟨by rw [h1]; rcases hb with h | h; (rw [decide_eq_false (show ¬ 0 ≤ b by omega)]; rfl); (rw [decide_eq_false (show ¬ b ≤ 7 by omega), Bool.and_false]), h2⟩)
  skip
  unfold stV at hW
  have HW := hide hW
  clear oW bI bZ bX hX hW
  have hst : stV p R = #[.int .i64 p, .int .i64 (R 0), .int .i64 (R 1), .int .i64 (R 2), .int .i64 (R 3), .int .i64 (R 4), .int .i64 (R 5), .int .i64 (R 6), .int .i64 (R 7)] := rfl
  rw [hst]
  clear hst
  go_enter Tryz.func45, Tryz.ntmps45
  go_wp2_with fail
  rw [HX.out, HW.out]
  refine wp_region_held_drew (S := (fun V => Only [] W V)) (by kernel_rfl) ((Only.refl _ W).drew) (fun hHeld => ?_)
  revert hHeld
  generalize W.drew = u0
  intro hHeld
  obtain ⟨mb, hmb⟩ : ∃ mb, u0.heap.size = mb := ⟨_, rfl⟩
  refine wpAnyH_take (i := 1) (oi := ⟨some 13, _, _, _, _, _⟩) (v := ?vs9_1) rfl (by kernel_rfl) (by kernel_rfl) (by kernel_rfl) (fun _ _ _ h => h) (Or.inl ⟨by rfl, ?hys9_1⟩) (by assumption) ?rests9_1
  case hys9_1 => (intro V hSw; (try dsimp only at hSw); go_simp; first | done | (with_reducible rfl))
  try simp only [Act.put, List.setIfInBounds_toArray, List.set_cons_zero, List.set_cons_succ]
  refine wpAnyH_take (i := 2) (oi := ⟨some 14, _, _, _, _, _⟩) (v := ?vs9_2) rfl (by kernel_rfl) (by kernel_rfl) (by kernel_rfl) (fun _ _ _ h => h) (Or.inl ⟨by rfl, ?hys9_2⟩) (by assumption) ?rests9_2
  case hys9_2 => (intro V hSw; (try dsimp only at hSw); have z := CI.out V hSw; go_simp; first | done | (with_reducible rfl))
  try simp only [Act.put, List.setIfInBounds_toArray, List.set_cons_zero, List.set_cons_succ]
  refine wpAnyH_ready (rs := [0]) (by kernel_rfl) (by simp) ?_
  refine AllReadyH.cons (o := ⟨some 12, _, _, _, _, _⟩) rfl (fun K hK => ?_) (AllReadyH.nil)
  rw [if_pos (by rfl)]
  go_simp
  (with_reducible refine (DA.out _).mono ?_); rintro e u1 ⟨rfl, ⟨nn, MP⟩, o'⟩; rw [hmb] at MP ⊢; have MP := hide MP; have OS := hide ((show Only [] W u0 from hHeld).trans0 o')
  try dsimp only
  refine hK.out _ _ (OS.out) (fun hHeld => ?_)
  clear hK K
  try simp only [Act.put, List.setIfInBounds_toArray, List.set_cons_zero, List.set_cons_succ]
  refine wpAnyH_ready (rs := [3]) (by kernel_rfl) (by simp) ?_
  refine AllReadyH.cons (o := ⟨some 15, _, _, _, _, _⟩) rfl (fun K hK => ?_) (AllReadyH.nil)
  rw [if_pos (by rfl)]
  have z := LK.out _ _ _ MP.out
  go_simp
  try dsimp only
  refine hK.out _ _ ((show Only [] W u1 from hHeld)) (fun hHeld => ?_)
  clear hK K
  try simp only [Act.put, List.setIfInBounds_toArray, List.set_cons_zero, List.set_cons_succ]
  refine wpAnyH_take (i := 4) (oi := ⟨some 11, _, _, _, _, _⟩) (v := ?vs9_3) rfl (by kernel_rfl) (by kernel_rfl) (by kernel_rfl) (fun _ _ _ h => h) (Or.inl ⟨by rfl, ?hys9_3⟩) (by assumption) ?rests9_3
  case hys9_3 => (intro V hSw; (try dsimp only at hSw); go_simp; first | done | (with_reducible rfl))
  try simp only [Act.put, List.setIfInBounds_toArray, List.set_cons_zero, List.set_cons_succ]
  refine wpAnyH_take (i := 5) (oi := ⟨some 16, _, _, _, _, _⟩) (v := ?vs9_4) rfl (by kernel_rfl) (by kernel_rfl) (by kernel_rfl) (fun _ _ _ h => h) (Or.inl ⟨by rfl, ?hys9_4⟩) (by assumption) ?rests9_4
  case hys9_4 => (intro V hSw; (try dsimp only at hSw); go_simp; first | done | (with_reducible rfl))
  try simp only [Act.put, List.setIfInBounds_toArray, List.set_cons_zero, List.set_cons_succ]
  refine wpAnyH_take (i := 6) (oi := ⟨some 17, _, _, _, _, _⟩) (v := ?vs9_5) rfl (by kernel_rfl) (by kernel_rfl) (by kernel_rfl) (fun _ _ _ h => h) (Or.inl ⟨by rfl, ?hys9_5⟩) (by assumption) ?rests9_5
  case hys9_5 => (intro V hSw; (try dsimp only at hSw); go_simp; first | done | (with_reducible rfl))
  try simp only [Act.put, List.setIfInBounds_toArray, List.set_cons_zero, List.set_cons_succ]
  refine wpAnyH_take (i := 7) (oi := ⟨some 6, _, _, _, _, _⟩) (v := ?vs9_6) rfl (by kernel_rfl) (by kernel_rfl) (by kernel_rfl) (fun _ _ _ h => h) (Or.inl ⟨by rfl, ?hys9_6⟩) (by assumption) ?rests9_6
  case hys9_6 => (intro V hSw; (try dsimp only at hSw); go_simp; first | done | (with_reducible rfl))
  try simp only [Act.put, List.setIfInBounds_toArray, List.set_cons_zero, List.set_cons_succ]
  refine wpAnyH_take (i := 8) (oi := ⟨some 7, _, _, _, _, _⟩) (v := ?vs9_7) rfl (by kernel_rfl) (by kernel_rfl) (by kernel_rfl) (fun _ _ _ h => h) (Or.inl ⟨by rfl, ?hys9_7⟩) (by assumption) ?rests9_7
  case hys9_7 => (intro V hSw; (try dsimp only at hSw); go_simp; first | done | (with_reducible rfl))
  try simp only [Act.put, List.setIfInBounds_toArray, List.set_cons_zero, List.set_cons_succ]
  refine wpAnyH_done (by kernel_rfl) ?_ _
  have OS := hide (show Only [] W u1 from hHeld)
  have t0 := (BI.out.only OS.out (by simp)).cell 0
  clear hHeld hmb MP LK DA CI
  go_wp2_with (first
    | (go_at_call 37; (with_reducible refine (OF.out _).mono ?_); rintro e u2 ⟨rfl, o2⟩; have oo := (OS.out.trans0 o2).alloc (.cells #[.string nm, .bool true, .bool true, .bool true, .int .i64 0] 83); have B3I := BI.out.only oo (by simp); have B3Z := hide (BZ.out.only oo (by simp)); have B3X := hide (BX.out.only oo (by simp)); have O3 := hide (OW.out.trans0 oo); have B3O := Blk.new u2 83 #[.string nm, .bool true, .bool true, .bool true, .int .i64 0]; have i0 := B3I.cell 0; have i1 := B3I.cell 1; have i2 := B3I.cell 2; have i3 := B3I.cell 3; have i4 := B3I.cell 4; have q1 := B3O.cell 1; have q2 := B3O.cell 2; have q3 := B3O.cell 3; have z0 : (u2.alloc (.cells #[.string nm, .bool true, .bool true, .bool true, .int .i64 0] 83)).cell? ⟨X + 1, 0, none⟩ = some (.int .i64 p) := B3Z.out.cell 0; have z1 : (u2.alloc (.cells #[.string nm, .bool true, .bool true, .bool true, .int .i64 0] 83)).cell? ⟨X + 1, 1, none⟩ = some (.int .i64 (R 0)) := B3Z.out.cell 1; have z2 : (u2.alloc (.cells #[.string nm, .bool true, .bool true, .bool true, .int .i64 0] 83)).cell? ⟨X + 1, 2, none⟩ = some (.int .i64 (R 1)) := B3Z.out.cell 2; have z3 : (u2.alloc (.cells #[.string nm, .bool true, .bool true, .bool true, .int .i64 0] 83)).cell? ⟨X + 1, 3, none⟩ = some (.int .i64 (R 2)) := B3Z.out.cell 3; have z4 : (u2.alloc (.cells #[.string nm, .bool true, .bool true, .bool true, .int .i64 0] 83)).cell? ⟨X + 1, 4, none⟩ = some (.int .i64 (R 3)) := B3Z.out.cell 4; have z5 : (u2.alloc (.cells #[.string nm, .bool true, .bool true, .bool true, .int .i64 0] 83)).cell? ⟨X + 1, 5, none⟩ = some (.int .i64 (R 4)) := B3Z.out.cell 5; have z6 : (u2.alloc (.cells #[.string nm, .bool true, .bool true, .bool true, .int .i64 0] 83)).cell? ⟨X + 1, 6, none⟩ = some (.int .i64 (R 5)) := B3Z.out.cell 6; have z7 : (u2.alloc (.cells #[.string nm, .bool true, .bool true, .bool true, .int .i64 0] 83)).cell? ⟨X + 1, 7, none⟩ = some (.int .i64 (R 6)) := B3Z.out.cell 7; have z8 : (u2.alloc (.cells #[.string nm, .bool true, .bool true, .bool true, .int .i64 0] 83)).cell? ⟨X + 1, 8, none⟩ = some (.int .i64 (R 7)) := B3Z.out.cell 8; have x0 : (u2.alloc (.cells #[.string nm, .bool true, .bool true, .bool true, .int .i64 0] 83)).cell? ⟨X + 1 + 1, 0, none⟩ = some (.int .i64 0) := B3X.out.cell 0; have y0 := B3X.out.frozen 0; have x1 : (u2.alloc (.cells #[.string nm, .bool true, .bool true, .bool true, .int .i64 0] 83)).cell? ⟨X + 1 + 1, 1, none⟩ = some (.int .i64 0) := B3X.out.cell 1; have y1 := B3X.out.frozen 1; have x2 : (u2.alloc (.cells #[.string nm, .bool true, .bool true, .bool true, .int .i64 0] 83)).cell? ⟨X + 1 + 1, 2, none⟩ = some (.int .i64 0) := B3X.out.cell 2; have y2 := B3X.out.frozen 2; have x3 : (u2.alloc (.cells #[.string nm, .bool true, .bool true, .bool true, .int .i64 0] 83)).cell? ⟨X + 1 + 1, 3, none⟩ = some (.int .i64 0) := B3X.out.cell 3; have y3 := B3X.out.frozen 3; have x4 : (u2.alloc (.cells #[.string nm, .bool true, .bool true, .bool true, .int .i64 0] 83)).cell? ⟨X + 1 + 1, 4, none⟩ = some (.int .i64 0) := B3X.out.cell 4; have y4 := B3X.out.frozen 4; have x5 : (u2.alloc (.cells #[.string nm, .bool true, .bool true, .bool true, .int .i64 0] 83)).cell? ⟨X + 1 + 1, 5, none⟩ = some (.int .i64 0) := B3X.out.cell 5; have y5 := B3X.out.frozen 5; have x6 : (u2.alloc (.cells #[.string nm, .bool true, .bool true, .bool true, .int .i64 0] 83)).cell? ⟨X + 1 + 1, 6, none⟩ = some (.int .i64 0) := B3X.out.cell 6; have y6 := B3X.out.frozen 6; have x7 : (u2.alloc (.cells #[.string nm, .bool true, .bool true, .bool true, .int .i64 0] 83)).cell? ⟨X + 1 + 1, 7, none⟩ = some (.int .i64 0) := B3X.out.cell 7; have y7 := B3X.out.frozen 7; have x8 : (u2.alloc (.cells #[.string nm, .bool true, .bool true, .bool true, .int .i64 0] 83)).cell? ⟨X + 1 + 1, 8, none⟩ = some (.int .i64 0) := B3X.out.cell 8; have y8 := B3X.out.frozen 8; clear oo o2 B3I B3O)
    | (go_at_call 82; (with_reducible refine (INd.out _).mono ?_); rintro e w' ⟨rfl, hw⟩; obtain rfl := hw.symm; clear hw)
    | (go_at_call 82; (with_reducible refine (INa.out _).mono ?_); rintro e w' ⟨rfl, hw⟩; obtain rfl := hw.symm; clear hw)
    | (go_at_call 82; (with_reducible refine (INb.out _).mono ?_); rintro e w' ⟨rfl, hw⟩; obtain rfl := hw.symm; clear hw))
  rw [PGF.out]
  have BFF := (((((((((B3X.out).set_ 0 (.int .i64 p)).set_ 1 (.int .i64 (R 0))).set_ 2 (.int .i64 (R 1))).set_ 3 (.int .i64 (R 2))).set_ 4 (.int .i64 (R 3))).set_ 5 (.int .i64 (R 4))).set_ 6 (.int .i64 (R 5))).set_ 7 (.int .i64 (R 6))).set_ 8 (.int .i64 (R 7))
  refine bodyPost_ret (v := .tuple #[.agg (stV p (R)), .bool false]) (results_cell2b Tryz.results45 rfl rfl (load39 (p := p) (R := R) (by simpa [stV] using BFF))) rfl ⟨rfl, ?_⟩
  exact (((((((((((O3.out.mono (T := [X + 1 + 1]) (by simp))).setCell (p := ⟨X + 1 + 1, 0, none⟩) (.inl (by simp)) _).setCell (p := ⟨X + 1 + 1, 1, none⟩) (.inl (by simp)) _).setCell (p := ⟨X + 1 + 1, 2, none⟩) (.inl (by simp)) _).setCell (p := ⟨X + 1 + 1, 3, none⟩) (.inl (by simp)) _).setCell (p := ⟨X + 1 + 1, 4, none⟩) (.inl (by simp)) _).setCell (p := ⟨X + 1 + 1, 5, none⟩) (.inl (by simp)) _).setCell (p := ⟨X + 1 + 1, 6, none⟩) (.inl (by simp)) _).setCell (p := ⟨X + 1 + 1, 7, none⟩) (.inl (by simp)) _).setCell (p := ⟨X + 1 + 1, 8, none⟩) (.inl (by simp)) _).mono (fun x hx => .inr (by have := HX.out; simp at hx; omega))
set_option maxHeartbeats 8000000 in
theorem step3_ok (d : Nat) (hd : d < 8) (a : Nat) (ha : a < 8) (b : Nat) (hb : b < 8) (imm p : Int) (R : Nat → Int) (w : World) : Calls Tryz.prog 45 #[.agg #[.int .i64 (3), .int .i64 ((d : Nat) : Int), .int .i64 ((a : Nat) : Int), .int .i64 ((b : Nat) : Int), .int .i64 imm], .agg (stV p R)] w fun e w' => e = .returned (stepV ⟨3, ((d : Nat) : Int), ((a : Nat) : Int), ((b : Nat) : Int), imm⟩ p R) ∧ Only [] w w' := by
  have PGF := hide (show stepV ⟨3, ((d : Nat) : Int), ((a : Nat) : Int), ((b : Nat) : Int), imm⟩ p R = .tuple #[.agg (stV (IntKind.i64.wrap (p + 1)) (upR R d (IntKind.i64.wrap (R a + R b)))), .bool true] from by
    have h1 : stepOk ⟨3, ((d : Nat) : Int), ((a : Nat) : Int), ((b : Nat) : Int), imm⟩ = true := by unfold stepOk inReg; simp [shp] <;> omega
    have h2 : stepPC ⟨3, ((d : Nat) : Int), ((a : Nat) : Int), ((b : Nat) : Int), imm⟩ p R = (IntKind.i64.wrap (p + 1)) := by unfold stepPC; simp
    have h3 : stepR ⟨3, ((d : Nat) : Int), ((a : Nat) : Int), ((b : Nat) : Int), imm⟩ R = (upR R d (IntKind.i64.wrap (R a + R b))) := by unfold stepR; simp
    unfold stepV
    rw [h1, h2, h3]
    rfl)
  obtain ⟨X, hX⟩ : ∃ X, w.heap.size = X := ⟨_, rfl⟩
  obtain ⟨W, hW⟩ : ∃ W, ((w.alloc (.cells #[.int .i64 (3), .int .i64 ((d : Nat) : Int), .int .i64 ((a : Nat) : Int), .int .i64 ((b : Nat) : Int), .int .i64 imm] 25)).alloc (.cells (stV p R) 98)).alloc (.cells #[.int .i64 0, .int .i64 0, .int .i64 0, .int .i64 0, .int .i64 0, .int .i64 0, .int .i64 0, .int .i64 0, .int .i64 0] 98) = W := ⟨_, rfl⟩
  have oW : Only [] w W := by rw [← hW]; exact (((Only.refl [] w).alloc _).alloc _).alloc _
  have bI : Blk W X 25 #[.int .i64 (3), .int .i64 ((d : Nat) : Int), .int .i64 ((a : Nat) : Int), .int .i64 ((b : Nat) : Int), .int .i64 imm] := by rw [← hW, ← hX]; exact ((Blk.new w 25 _).alloc _).alloc _
  have bZ : Blk W (X + 1) 98 (stV p R) := by
    have := (Blk.new (w.alloc (.cells #[.int .i64 (3), .int .i64 ((d : Nat) : Int), .int .i64 ((a : Nat) : Int), .int .i64 ((b : Nat) : Int), .int .i64 imm] 25)) 98 (stV p R)).alloc (.cells #[.int .i64 0, .int .i64 0, .int .i64 0, .int .i64 0, .int .i64 0, .int .i64 0, .int .i64 0, .int .i64 0, .int .i64 0] 98)
    rw [World.size_alloc, hX, hW] at this
    exact this
  have bX : Blk W (X + 1 + 1) 98 #[.int .i64 0, .int .i64 0, .int .i64 0, .int .i64 0, .int .i64 0, .int .i64 0, .int .i64 0, .int .i64 0, .int .i64 0] := by
    have := Blk.new ((w.alloc (.cells #[.int .i64 (3), .int .i64 ((d : Nat) : Int), .int .i64 ((a : Nat) : Int), .int .i64 ((b : Nat) : Int), .int .i64 imm] 25)).alloc (.cells (stV p R) 98)) 98 #[.int .i64 0, .int .i64 0, .int .i64 0, .int .i64 0, .int .i64 0, .int .i64 0, .int .i64 0, .int .i64 0, .int .i64 0]
    rw [World.size_alloc, World.size_alloc, hX, hW] at this
    exact this
  have CI := hide (fun V (ov : Only [] W V) => show V.cell? ⟨X, 0, none⟩ = some (.int .i64 (3)) from (bI.only ov (by simp)).cell 0)
  have DA := hide (fun V => does_any V)
  have HX := hide hX
  have HWX := hide (show X + 3 ≤ W.heap.size by have := bX.lt; omega)
  have OW := hide oW
  have BI := hide bI
  have BZ := hide bZ
  have BX := hide bX
  have LK := hide (fun (V : World) (mb nn : Nat) (h : Mp Tryz.prog 23 V mb (dF 6) nn) => show (Instr.lookup 132 (.map (some mb)) (.int .i64 3) true).run Tryz.prog V = .ok (.tuple #[.func (.func 101) #[] #[], .bool true]) V from by
    obtain ⟨l, hl⟩ := key22 3 (by decide)
    exact (h.look keyed22 Tryz.underlying132 hl (dF_some 6 3 (by omega) (by omega))).2)
  obtain ⟨nm, hnm⟩ : ∃ nm, ByteArray.mk (nmB 3).toArray = nm := ⟨_, rfl⟩
  have OF := hide (fun W => show Calls Tryz.prog 37 #[.int .i64 3] W fun e w' => e = .returned (.tuple #[.agg #[.string nm, .bool true, .bool true, .bool true, .int .i64 0], .bool true]) ∧ Only [] W w' from by rw [← hnm]; exact of_ok 3 (by decide) W)
  have INd := hide (fun W => show Calls Tryz.prog 82 #[.int .i64 ((d : Nat) : Int)] W fun e w' => e = .returned (.bool true) ∧ w' = W from (inOk_any ((d : Nat) : Int) W).mono fun e w' ⟨h1, h2⟩ => ⟨by rw [h1, decide_eq_true (show (0 : Int) ≤ d by omega), decide_eq_true (show (d : Int) ≤ 7 by omega)]; rfl, h2⟩)
  have INa := hide (fun W => show Calls Tryz.prog 82 #[.int .i64 ((a : Nat) : Int)] W fun e w' => e = .returned (.bool true) ∧ w' = W from (inOk_any ((a : Nat) : Int) W).mono fun e w' ⟨h1, h2⟩ => ⟨by rw [h1, decide_eq_true (show (0 : Int) ≤ a by omega), decide_eq_true (show (a : Int) ≤ 7 by omega)]; rfl, h2⟩)
  have INb := hide (fun W => show Calls Tryz.prog 82 #[.int .i64 ((b : Nat) : Int)] W fun e w' => e = .returned (.bool true) ∧ w' = W from (inOk_any ((b : Nat) : Int) W).mono fun e w' ⟨h1, h2⟩ => ⟨by rw [h1, decide_eq_true (show (0 : Int) ≤ b by omega), decide_eq_true (show (b : Int) ≤ 7 by omega)]; rfl, h2⟩)
  have e1 : ∃ pw, IntKind.i64.wrap (p + 1) = pw := ⟨_, rfl⟩
  obtain ⟨pw, hpw⟩ := e1
  have PGF := PGF.out
  rw [hpw] at PGF
  obtain ⟨R2, hR2⟩ : ∃ R2, (upR R d (IntKind.i64.wrap (R a + R b))) = R2 := ⟨_, rfl⟩
  obtain ⟨p2, hp2⟩ : ∃ p2, pw = p2 := ⟨_, rfl⟩
  rw [hR2, hp2] at PGF
  have HR2 := hide hR2
  clear hR2
  have HP2 := hide hp2
  clear hp2
  have PGF := hide PGF
  unfold stV at hW
  have HW := hide hW
  clear oW bI bZ bX hX hW
  have hst : stV p R = #[.int .i64 p, .int .i64 (R 0), .int .i64 (R 1), .int .i64 (R 2), .int .i64 (R 3), .int .i64 (R 4), .int .i64 (R 5), .int .i64 (R 6), .int .i64 (R 7)] := rfl
  rw [hst]
  clear hst
  go_enter Tryz.func45, Tryz.ntmps45
  go_wp2_with fail
  rw [HX.out, HW.out]
  refine wp_region_held_drew (S := (fun V => Only [] W V)) (by kernel_rfl) ((Only.refl _ W).drew) (fun hHeld => ?_)
  revert hHeld
  generalize W.drew = u0
  intro hHeld
  obtain ⟨mb, hmb⟩ : ∃ mb, u0.heap.size = mb := ⟨_, rfl⟩
  refine wpAnyH_take (i := 1) (oi := ⟨some 13, _, _, _, _, _⟩) (v := ?vs10_1) rfl (by kernel_rfl) (by kernel_rfl) (by kernel_rfl) (fun _ _ _ h => h) (Or.inl ⟨by rfl, ?hys10_1⟩) (by assumption) ?rests10_1
  case hys10_1 => (intro V hSw; (try dsimp only at hSw); go_simp; first | done | (with_reducible rfl))
  try simp only [Act.put, List.setIfInBounds_toArray, List.set_cons_zero, List.set_cons_succ]
  refine wpAnyH_take (i := 2) (oi := ⟨some 14, _, _, _, _, _⟩) (v := ?vs10_2) rfl (by kernel_rfl) (by kernel_rfl) (by kernel_rfl) (fun _ _ _ h => h) (Or.inl ⟨by rfl, ?hys10_2⟩) (by assumption) ?rests10_2
  case hys10_2 => (intro V hSw; (try dsimp only at hSw); have z := CI.out V hSw; go_simp; first | done | (with_reducible rfl))
  try simp only [Act.put, List.setIfInBounds_toArray, List.set_cons_zero, List.set_cons_succ]
  refine wpAnyH_ready (rs := [0]) (by kernel_rfl) (by simp) ?_
  refine AllReadyH.cons (o := ⟨some 12, _, _, _, _, _⟩) rfl (fun K hK => ?_) (AllReadyH.nil)
  rw [if_pos (by rfl)]
  go_simp
  (with_reducible refine (DA.out _).mono ?_); rintro e u1 ⟨rfl, ⟨nn, MP⟩, o'⟩; rw [hmb] at MP ⊢; have MP := hide MP; have OS := hide ((show Only [] W u0 from hHeld).trans0 o')
  try dsimp only
  refine hK.out _ _ (OS.out) (fun hHeld => ?_)
  clear hK K
  try simp only [Act.put, List.setIfInBounds_toArray, List.set_cons_zero, List.set_cons_succ]
  refine wpAnyH_ready (rs := [3]) (by kernel_rfl) (by simp) ?_
  refine AllReadyH.cons (o := ⟨some 15, _, _, _, _, _⟩) rfl (fun K hK => ?_) (AllReadyH.nil)
  rw [if_pos (by rfl)]
  have z := LK.out _ _ _ MP.out
  go_simp
  try dsimp only
  refine hK.out _ _ ((show Only [] W u1 from hHeld)) (fun hHeld => ?_)
  clear hK K
  try simp only [Act.put, List.setIfInBounds_toArray, List.set_cons_zero, List.set_cons_succ]
  refine wpAnyH_take (i := 4) (oi := ⟨some 11, _, _, _, _, _⟩) (v := ?vs10_3) rfl (by kernel_rfl) (by kernel_rfl) (by kernel_rfl) (fun _ _ _ h => h) (Or.inl ⟨by rfl, ?hys10_3⟩) (by assumption) ?rests10_3
  case hys10_3 => (intro V hSw; (try dsimp only at hSw); go_simp; first | done | (with_reducible rfl))
  try simp only [Act.put, List.setIfInBounds_toArray, List.set_cons_zero, List.set_cons_succ]
  refine wpAnyH_take (i := 5) (oi := ⟨some 16, _, _, _, _, _⟩) (v := ?vs10_4) rfl (by kernel_rfl) (by kernel_rfl) (by kernel_rfl) (fun _ _ _ h => h) (Or.inl ⟨by rfl, ?hys10_4⟩) (by assumption) ?rests10_4
  case hys10_4 => (intro V hSw; (try dsimp only at hSw); go_simp; first | done | (with_reducible rfl))
  try simp only [Act.put, List.setIfInBounds_toArray, List.set_cons_zero, List.set_cons_succ]
  refine wpAnyH_take (i := 6) (oi := ⟨some 17, _, _, _, _, _⟩) (v := ?vs10_5) rfl (by kernel_rfl) (by kernel_rfl) (by kernel_rfl) (fun _ _ _ h => h) (Or.inl ⟨by rfl, ?hys10_5⟩) (by assumption) ?rests10_5
  case hys10_5 => (intro V hSw; (try dsimp only at hSw); go_simp; first | done | (with_reducible rfl))
  try simp only [Act.put, List.setIfInBounds_toArray, List.set_cons_zero, List.set_cons_succ]
  refine wpAnyH_take (i := 7) (oi := ⟨some 6, _, _, _, _, _⟩) (v := ?vs10_6) rfl (by kernel_rfl) (by kernel_rfl) (by kernel_rfl) (fun _ _ _ h => h) (Or.inl ⟨by rfl, ?hys10_6⟩) (by assumption) ?rests10_6
  case hys10_6 => (intro V hSw; (try dsimp only at hSw); go_simp; first | done | (with_reducible rfl))
  try simp only [Act.put, List.setIfInBounds_toArray, List.set_cons_zero, List.set_cons_succ]
  refine wpAnyH_take (i := 8) (oi := ⟨some 7, _, _, _, _, _⟩) (v := ?vs10_7) rfl (by kernel_rfl) (by kernel_rfl) (by kernel_rfl) (fun _ _ _ h => h) (Or.inl ⟨by rfl, ?hys10_7⟩) (by assumption) ?rests10_7
  case hys10_7 => (intro V hSw; (try dsimp only at hSw); go_simp; first | done | (with_reducible rfl))
  try simp only [Act.put, List.setIfInBounds_toArray, List.set_cons_zero, List.set_cons_succ]
  refine wpAnyH_done (by kernel_rfl) ?_ _
  have OS := hide (show Only [] W u1 from hHeld)
  have t0 := (BI.out.only OS.out (by simp)).cell 0
  clear hHeld hmb MP LK DA CI
  go_wp2_with (first
    | (go_at_call 37; (with_reducible refine (OF.out _).mono ?_); rintro e u2 ⟨rfl, o2⟩; have oo := (OS.out.trans0 o2).alloc (.cells #[.string nm, .bool true, .bool true, .bool true, .int .i64 0] 83); have B3I := BI.out.only oo (by simp); have B3Z := hide (BZ.out.only oo (by simp)); have B3X := hide (BX.out.only oo (by simp)); have O3 := hide (OW.out.trans0 oo); have B3O := Blk.new u2 83 #[.string nm, .bool true, .bool true, .bool true, .int .i64 0]; have i0 := B3I.cell 0; have i1 := B3I.cell 1; have i2 := B3I.cell 2; have i3 := B3I.cell 3; have i4 := B3I.cell 4; have q1 := B3O.cell 1; have q2 := B3O.cell 2; have q3 := B3O.cell 3; have z0 : (u2.alloc (.cells #[.string nm, .bool true, .bool true, .bool true, .int .i64 0] 83)).cell? ⟨X + 1, 0, none⟩ = some (.int .i64 p) := B3Z.out.cell 0; have z1 : (u2.alloc (.cells #[.string nm, .bool true, .bool true, .bool true, .int .i64 0] 83)).cell? ⟨X + 1, 1, none⟩ = some (.int .i64 (R 0)) := B3Z.out.cell 1; have z2 : (u2.alloc (.cells #[.string nm, .bool true, .bool true, .bool true, .int .i64 0] 83)).cell? ⟨X + 1, 2, none⟩ = some (.int .i64 (R 1)) := B3Z.out.cell 2; have z3 : (u2.alloc (.cells #[.string nm, .bool true, .bool true, .bool true, .int .i64 0] 83)).cell? ⟨X + 1, 3, none⟩ = some (.int .i64 (R 2)) := B3Z.out.cell 3; have z4 : (u2.alloc (.cells #[.string nm, .bool true, .bool true, .bool true, .int .i64 0] 83)).cell? ⟨X + 1, 4, none⟩ = some (.int .i64 (R 3)) := B3Z.out.cell 4; have z5 : (u2.alloc (.cells #[.string nm, .bool true, .bool true, .bool true, .int .i64 0] 83)).cell? ⟨X + 1, 5, none⟩ = some (.int .i64 (R 4)) := B3Z.out.cell 5; have z6 : (u2.alloc (.cells #[.string nm, .bool true, .bool true, .bool true, .int .i64 0] 83)).cell? ⟨X + 1, 6, none⟩ = some (.int .i64 (R 5)) := B3Z.out.cell 6; have z7 : (u2.alloc (.cells #[.string nm, .bool true, .bool true, .bool true, .int .i64 0] 83)).cell? ⟨X + 1, 7, none⟩ = some (.int .i64 (R 6)) := B3Z.out.cell 7; have z8 : (u2.alloc (.cells #[.string nm, .bool true, .bool true, .bool true, .int .i64 0] 83)).cell? ⟨X + 1, 8, none⟩ = some (.int .i64 (R 7)) := B3Z.out.cell 8; have fz0 := B3Z.out.frozen 0; clear oo o2 B3I B3O)
    | (go_at_call 82; (with_reducible refine (INd.out _).mono ?_); rintro e w' ⟨rfl, hw⟩; obtain rfl := hw.symm; clear hw)
    | (go_at_call 82; (with_reducible refine (INa.out _).mono ?_); rintro e w' ⟨rfl, hw⟩; obtain rfl := hw.symm; clear hw)
    | (go_at_call 82; (with_reducible refine (INb.out _).mono ?_); rintro e w' ⟨rfl, hw⟩; obtain rfl := hw.symm; clear hw)
    | (go_at_call 101; clear z0 z1 z2 z3 z4 z5 z6 z7 z8 fz0; refine (does3 3 imm pw R d a b hd ha hb (X + 1) _ (by have := B3Z.out.set_ 0 (.int .i64 pw); rw [stV_pc] at this; exact this)).mono ?_; rintro e u4 ⟨rfl, bz, oz⟩; have bz := bz; rw [HR2.out, HP2.out] at bz; have OZ := hide oz; have BZ4 := hide bz; have B4X := hide ((B3X.out.far (p := ⟨X + 1, 0, none⟩) (by simp) (.int .i64 pw)).only oz (by simp)); have O4 := hide ((O3.out.mono (T := [X + 1]) (by simp)).setCell (p := ⟨X + 1, 0, none⟩) (.inl (by simp)) (.int .i64 pw)); have z0 : u4.cell? ⟨X + 1, 0, none⟩ = some (.int .i64 p2) := BZ4.out.cell 0; have z1 : u4.cell? ⟨X + 1, 1, none⟩ = some (.int .i64 (R2 0)) := BZ4.out.cell 1; have z2 : u4.cell? ⟨X + 1, 2, none⟩ = some (.int .i64 (R2 1)) := BZ4.out.cell 2; have z3 : u4.cell? ⟨X + 1, 3, none⟩ = some (.int .i64 (R2 2)) := BZ4.out.cell 3; have z4 : u4.cell? ⟨X + 1, 4, none⟩ = some (.int .i64 (R2 3)) := BZ4.out.cell 4; have z5 : u4.cell? ⟨X + 1, 5, none⟩ = some (.int .i64 (R2 4)) := BZ4.out.cell 5; have z6 : u4.cell? ⟨X + 1, 6, none⟩ = some (.int .i64 (R2 5)) := BZ4.out.cell 6; have z7 : u4.cell? ⟨X + 1, 7, none⟩ = some (.int .i64 (R2 6)) := BZ4.out.cell 7; have z8 : u4.cell? ⟨X + 1, 8, none⟩ = some (.int .i64 (R2 7)) := BZ4.out.cell 8; have x0 : u4.cell? ⟨X + 1 + 1, 0, none⟩ = some (.int .i64 0) := B4X.out.cell 0; have y0 := B4X.out.frozen 0; have x1 : u4.cell? ⟨X + 1 + 1, 1, none⟩ = some (.int .i64 0) := B4X.out.cell 1; have y1 := B4X.out.frozen 1; have x2 : u4.cell? ⟨X + 1 + 1, 2, none⟩ = some (.int .i64 0) := B4X.out.cell 2; have y2 := B4X.out.frozen 2; have x3 : u4.cell? ⟨X + 1 + 1, 3, none⟩ = some (.int .i64 0) := B4X.out.cell 3; have y3 := B4X.out.frozen 3; have x4 : u4.cell? ⟨X + 1 + 1, 4, none⟩ = some (.int .i64 0) := B4X.out.cell 4; have y4 := B4X.out.frozen 4; have x5 : u4.cell? ⟨X + 1 + 1, 5, none⟩ = some (.int .i64 0) := B4X.out.cell 5; have y5 := B4X.out.frozen 5; have x6 : u4.cell? ⟨X + 1 + 1, 6, none⟩ = some (.int .i64 0) := B4X.out.cell 6; have y6 := B4X.out.frozen 6; have x7 : u4.cell? ⟨X + 1 + 1, 7, none⟩ = some (.int .i64 0) := B4X.out.cell 7; have y7 := B4X.out.frozen 7; have x8 : u4.cell? ⟨X + 1 + 1, 8, none⟩ = some (.int .i64 0) := B4X.out.cell 8; have y8 := B4X.out.frozen 8; clear bz oz))
  rw [PGF.out]
  have BFF := (((((((((B4X.out).set_ 0 (.int .i64 p2)).set_ 1 (.int .i64 (R2 0))).set_ 2 (.int .i64 (R2 1))).set_ 3 (.int .i64 (R2 2))).set_ 4 (.int .i64 (R2 3))).set_ 5 (.int .i64 (R2 4))).set_ 6 (.int .i64 (R2 5))).set_ 7 (.int .i64 (R2 6))).set_ 8 (.int .i64 (R2 7))
  refine bodyPost_ret (v := .tuple #[.agg (stV p2 (R2)), .bool true]) (results_cell2b Tryz.results45 rfl rfl (load39 (p := p2) (R := R2) (by simpa [stV] using BFF))) rfl ⟨rfl, ?_⟩
  exact (((((((((((((O4.out.trans' OZ.out).mono (T := [X + 1, X + 1 + 1]) (by simp)))).setCell (p := ⟨X + 1 + 1, 0, none⟩) (.inl (by simp)) _).setCell (p := ⟨X + 1 + 1, 1, none⟩) (.inl (by simp)) _).setCell (p := ⟨X + 1 + 1, 2, none⟩) (.inl (by simp)) _).setCell (p := ⟨X + 1 + 1, 3, none⟩) (.inl (by simp)) _).setCell (p := ⟨X + 1 + 1, 4, none⟩) (.inl (by simp)) _).setCell (p := ⟨X + 1 + 1, 5, none⟩) (.inl (by simp)) _).setCell (p := ⟨X + 1 + 1, 6, none⟩) (.inl (by simp)) _).setCell (p := ⟨X + 1 + 1, 7, none⟩) (.inl (by simp)) _).setCell (p := ⟨X + 1 + 1, 8, none⟩) (.inl (by simp)) _).mono (fun x hx => .inr (by have := HX.out; simp at hx; omega))
end Go.Proofs.YtmaljajdmgkakaaGreatDoor
