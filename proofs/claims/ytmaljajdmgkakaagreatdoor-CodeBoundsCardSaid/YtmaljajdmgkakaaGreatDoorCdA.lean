/- Code: what ops do: the walks of does' closures. No condition. -/
import Derived.Test.YtmaljajdmgkakaaGreatDoorCd4
import Derived.BigRegion
namespace Go.Proofs.YtmaljajdmgkakaaGreatDoor
open Go.RowKit
set_option linter.unusedVariables false
set_option linter.all false
set_option maxRecDepth 20000

/-- A state, as the program keeps it. -/
def stV (p : Int) (R : Nat → Int) : Array Value := #[.int .i64 p, .int .i64 (R 0), .int .i64 (R 1), .int .i64 (R 2), .int .i64 (R 3), .int .i64 (R 4), .int .i64 (R 5), .int .i64 (R 6), .int .i64 (R 7)]
def upR (R : Nat → Int) (d : Nat) (v : Int) : Nat → Int := fun i => if i = d then v else R i
theorem stV_get (p : Int) (R : Nat → Int) : ∀ i, i < 8 → (stV p R)[1 + i]? = some (.int .i64 (R i)) := by
  intro i hi
  rcases (by omega : i = 0 ∨ i = 1 ∨ i = 2 ∨ i = 3 ∨ i = 4 ∨ i = 5 ∨ i = 6 ∨ i = 7) with h | h | h | h | h | h | h | h
  all_goals (subst h; rfl)
theorem stV_set (p : Int) (R : Nat → Int) (v : Int) : ∀ d, d < 8 → (stV p R).setIfInBounds (1 + d) (.int .i64 v) = stV p (upR R d v) := by
  intro d hd
  rcases (by omega : d = 0 ∨ d = 1 ∨ d = 2 ∨ d = 3 ∨ d = 4 ∨ d = 5 ∨ d = 6 ∨ d = 7) with h | h | h | h | h | h | h | h
  all_goals (subst h; rfl)
theorem stV_pc (p q : Int) (R : Nat → Int) : (stV p R).setIfInBounds 0 (.int .i64 q) = stV q R := rfl
set_option maxHeartbeats 4000000 in
theorem does1 (o a b imm p : Int) (R : Nat → Int) (d : Nat) (hd : d < 8) (Z : Nat) (w : World) (hZ : Blk w Z 98 (stV p R)) : Calls Tryz.prog 99 #[.agg #[.int .i64 o, .int .i64 d, .int .i64 a, .int .i64 b, .int .i64 imm], .pointer (some ⟨Z, 0, none⟩)] w fun e w' => e = .returned (.tuple #[]) ∧ Blk w' Z 98 (stV p (upR R d imm)) ∧ Only [Z] w w' := by
  have b1 := hZ.alloc (.cells #[.int .i64 o, .int .i64 d, .int .i64 a, .int .i64 b, .int .i64 imm] 25)
  have bI := Blk.new w 25 #[.int .i64 o, .int .i64 d, .int .i64 a, .int .i64 b, .int .i64 imm]
  have o1 := (Only.refl [Z] w).alloc (.cells #[.int .i64 o, .int .i64 d, .int .i64 a, .int .i64 b, .int .i64 imm] 25)
  have x0 := bI.cell 0
  have x1 := bI.cell 1
  have x2 := bI.cell 2
  have x3 := bI.cell 3
  have x4 := bI.cell 4
  have i0d : (0 : Int) ≤ (d : Int) := by omega
  have i1d : (d : Int) < 8 := by omega
  have zd := (b1.cell (1 + d)).trans (stV_get p R d hd)
  have fd := b1.frozen (1 + d)
  clear bI
  go_enter Tryz.func99, Tryz.ntmps99
  go_wp2_with fail
  go_region
  all_goals (try go_wp2_with fail)
  all_goals go_end0
  all_goals exact ⟨rfl, by have := b1.set_ (1 + d) (.int .i64 (imm)); rw [stV_set p R _ d hd] at this; exact this, (by repeat (first | exact o1 | refine Only.drew ?_ | refine Only.drewN ?_ _ | refine Only.setCell ?_ (.inl (by simp)) _))⟩
set_option maxHeartbeats 4000000 in
theorem does2 (o b imm p : Int) (R : Nat → Int) (d a : Nat) (hd : d < 8) (ha : a < 8) (Z : Nat) (w : World) (hZ : Blk w Z 98 (stV p R)) : Calls Tryz.prog 100 #[.agg #[.int .i64 o, .int .i64 d, .int .i64 a, .int .i64 b, .int .i64 imm], .pointer (some ⟨Z, 0, none⟩)] w fun e w' => e = .returned (.tuple #[]) ∧ Blk w' Z 98 (stV p (upR R d (R a))) ∧ Only [Z] w w' := by
  have b1 := hZ.alloc (.cells #[.int .i64 o, .int .i64 d, .int .i64 a, .int .i64 b, .int .i64 imm] 25)
  have bI := Blk.new w 25 #[.int .i64 o, .int .i64 d, .int .i64 a, .int .i64 b, .int .i64 imm]
  have o1 := (Only.refl [Z] w).alloc (.cells #[.int .i64 o, .int .i64 d, .int .i64 a, .int .i64 b, .int .i64 imm] 25)
  have x0 := bI.cell 0
  have x1 := bI.cell 1
  have x2 := bI.cell 2
  have x3 := bI.cell 3
  have x4 := bI.cell 4
  have i0d : (0 : Int) ≤ (d : Int) := by omega
  have i1d : (d : Int) < 8 := by omega
  have i0a : (0 : Int) ≤ (a : Int) := by omega
  have i1a : (a : Int) < 8 := by omega
  have zd := (b1.cell (1 + d)).trans (stV_get p R d hd)
  have fd := b1.frozen (1 + d)
  have za := (b1.cell (1 + a)).trans (stV_get p R a ha)
  have fa := b1.frozen (1 + a)
  clear bI
  go_enter Tryz.func100, Tryz.ntmps100
  go_wp2_with fail
  go_region
  all_goals (try go_wp2_with fail)
  all_goals go_end0
  all_goals exact ⟨rfl, by have := b1.set_ (1 + d) (.int .i64 (R a)); rw [stV_set p R _ d hd] at this; exact this, (by repeat (first | exact o1 | refine Only.drew ?_ | refine Only.drewN ?_ _ | refine Only.setCell ?_ (.inl (by simp)) _))⟩
set_option maxHeartbeats 4000000 in
theorem does3 (o imm p : Int) (R : Nat → Int) (d a b : Nat) (hd : d < 8) (ha : a < 8) (hb : b < 8) (Z : Nat) (w : World) (hZ : Blk w Z 98 (stV p R)) : Calls Tryz.prog 101 #[.agg #[.int .i64 o, .int .i64 d, .int .i64 a, .int .i64 b, .int .i64 imm], .pointer (some ⟨Z, 0, none⟩)] w fun e w' => e = .returned (.tuple #[]) ∧ Blk w' Z 98 (stV p (upR R d (IntKind.i64.wrap (R a + R b)))) ∧ Only [Z] w w' := by
  have b1 := hZ.alloc (.cells #[.int .i64 o, .int .i64 d, .int .i64 a, .int .i64 b, .int .i64 imm] 25)
  have bI := Blk.new w 25 #[.int .i64 o, .int .i64 d, .int .i64 a, .int .i64 b, .int .i64 imm]
  have o1 := (Only.refl [Z] w).alloc (.cells #[.int .i64 o, .int .i64 d, .int .i64 a, .int .i64 b, .int .i64 imm] 25)
  have x0 := bI.cell 0
  have x1 := bI.cell 1
  have x2 := bI.cell 2
  have x3 := bI.cell 3
  have x4 := bI.cell 4
  have i0d : (0 : Int) ≤ (d : Int) := by omega
  have i1d : (d : Int) < 8 := by omega
  have i0a : (0 : Int) ≤ (a : Int) := by omega
  have i1a : (a : Int) < 8 := by omega
  have i0b : (0 : Int) ≤ (b : Int) := by omega
  have i1b : (b : Int) < 8 := by omega
  have zd := (b1.cell (1 + d)).trans (stV_get p R d hd)
  have fd := b1.frozen (1 + d)
  have za := (b1.cell (1 + a)).trans (stV_get p R a ha)
  have fa := b1.frozen (1 + a)
  have zb := (b1.cell (1 + b)).trans (stV_get p R b hb)
  have fb := b1.frozen (1 + b)
  obtain ⟨vv, hv⟩ : ∃ vv, IntKind.i64.wrap (R a + R b) = vv := ⟨_, rfl⟩
  rw [hv]
  clear bI
  go_enter Tryz.func101, Tryz.ntmps101
  go_wp2_with fail
  go_region
  all_goals (try go_wp2_with fail)
  all_goals go_end0
  all_goals exact ⟨rfl, by have := b1.set_ (1 + d) (.int .i64 (vv)); rw [stV_set p R _ d hd] at this; exact this, (by repeat (first | exact o1 | refine Only.drew ?_ | refine Only.drewN ?_ _ | refine Only.setCell ?_ (.inl (by simp)) _))⟩
set_option maxHeartbeats 4000000 in
theorem does4 (o imm p : Int) (R : Nat → Int) (d a b : Nat) (hd : d < 8) (ha : a < 8) (hb : b < 8) (Z : Nat) (w : World) (hZ : Blk w Z 98 (stV p R)) : Calls Tryz.prog 102 #[.agg #[.int .i64 o, .int .i64 d, .int .i64 a, .int .i64 b, .int .i64 imm], .pointer (some ⟨Z, 0, none⟩)] w fun e w' => e = .returned (.tuple #[]) ∧ Blk w' Z 98 (stV p (upR R d (IntKind.i64.wrap (R a - R b)))) ∧ Only [Z] w w' := by
  have b1 := hZ.alloc (.cells #[.int .i64 o, .int .i64 d, .int .i64 a, .int .i64 b, .int .i64 imm] 25)
  have bI := Blk.new w 25 #[.int .i64 o, .int .i64 d, .int .i64 a, .int .i64 b, .int .i64 imm]
  have o1 := (Only.refl [Z] w).alloc (.cells #[.int .i64 o, .int .i64 d, .int .i64 a, .int .i64 b, .int .i64 imm] 25)
  have x0 := bI.cell 0
  have x1 := bI.cell 1
  have x2 := bI.cell 2
  have x3 := bI.cell 3
  have x4 := bI.cell 4
  have i0d : (0 : Int) ≤ (d : Int) := by omega
  have i1d : (d : Int) < 8 := by omega
  have i0a : (0 : Int) ≤ (a : Int) := by omega
  have i1a : (a : Int) < 8 := by omega
  have i0b : (0 : Int) ≤ (b : Int) := by omega
  have i1b : (b : Int) < 8 := by omega
  have zd := (b1.cell (1 + d)).trans (stV_get p R d hd)
  have fd := b1.frozen (1 + d)
  have za := (b1.cell (1 + a)).trans (stV_get p R a ha)
  have fa := b1.frozen (1 + a)
  have zb := (b1.cell (1 + b)).trans (stV_get p R b hb)
  have fb := b1.frozen (1 + b)
  obtain ⟨vv, hv⟩ : ∃ vv, IntKind.i64.wrap (R a - R b) = vv := ⟨_, rfl⟩
  rw [hv]
  clear bI
  go_enter Tryz.func102, Tryz.ntmps102
  go_wp2_with fail
  go_region
  all_goals (try go_wp2_with fail)
  all_goals go_end0
  all_goals exact ⟨rfl, by have := b1.set_ (1 + d) (.int .i64 (vv)); rw [stV_set p R _ d hd] at this; exact this, (by repeat (first | exact o1 | refine Only.drew ?_ | refine Only.drewN ?_ _ | refine Only.setCell ?_ (.inl (by simp)) _))⟩
set_option maxHeartbeats 4000000 in
theorem does5 (o d a b imm p : Int) (R : Nat → Int) (Z : Nat) (w : World) (hZ : Blk w Z 98 (stV p R)) : Calls Tryz.prog 103 #[.agg #[.int .i64 o, .int .i64 d, .int .i64 a, .int .i64 b, .int .i64 imm], .pointer (some ⟨Z, 0, none⟩)] w fun e w' => e = .returned (.tuple #[]) ∧ Blk w' Z 98 (stV imm R) ∧ Only [Z] w w' := by
  have b1 := hZ.alloc (.cells #[.int .i64 o, .int .i64 d, .int .i64 a, .int .i64 b, .int .i64 imm] 25)
  have bI := Blk.new w 25 #[.int .i64 o, .int .i64 d, .int .i64 a, .int .i64 b, .int .i64 imm]
  have o1 := (Only.refl [Z] w).alloc (.cells #[.int .i64 o, .int .i64 d, .int .i64 a, .int .i64 b, .int .i64 imm] 25)
  have x0 := bI.cell 0
  have x1 := bI.cell 1
  have x2 := bI.cell 2
  have x3 := bI.cell 3
  have x4 := bI.cell 4
  have z0 : (w.alloc (.cells #[.int .i64 o, .int .i64 d, .int .i64 a, .int .i64 b, .int .i64 imm] 25)).cell? ⟨Z, 0, none⟩ = some (.int .i64 p) := (b1.cell 0).trans rfl
  have f0 := b1.frozen 0
  clear bI
  go_enter Tryz.func103, Tryz.ntmps103
  go_wp2_with fail
  try go_region
  all_goals (try go_wp2_with fail)
  all_goals go_end0
  all_goals exact ⟨rfl, by have := b1.set_ 0 (.int .i64 imm); rw [stV_pc] at this; exact this, (by repeat (first | exact o1 | refine Only.drew ?_ | refine Only.drewN ?_ _ | refine Only.setCell ?_ (.inl (by simp)) _))⟩
set_option maxHeartbeats 4000000 in
theorem does6 (o d b imm p : Int) (R : Nat → Int) (a : Nat) (ha : a < 8) (Z : Nat) (w : World) (hZ : Blk w Z 98 (stV p R)) : Calls Tryz.prog 104 #[.agg #[.int .i64 o, .int .i64 d, .int .i64 a, .int .i64 b, .int .i64 imm], .pointer (some ⟨Z, 0, none⟩)] w fun e w' => e = .returned (.tuple #[]) ∧ Blk w' Z 98 (stV (if R a = 0 then imm else p) R) ∧ Only [Z] w w' := by
  have b1 := hZ.alloc (.cells #[.int .i64 o, .int .i64 d, .int .i64 a, .int .i64 b, .int .i64 imm] 25)
  have bI := Blk.new w 25 #[.int .i64 o, .int .i64 d, .int .i64 a, .int .i64 b, .int .i64 imm]
  have o1 := (Only.refl [Z] w).alloc (.cells #[.int .i64 o, .int .i64 d, .int .i64 a, .int .i64 b, .int .i64 imm] 25)
  have x0 := bI.cell 0
  have x1 := bI.cell 1
  have x2 := bI.cell 2
  have x3 := bI.cell 3
  have x4 := bI.cell 4
  have z0 : (w.alloc (.cells #[.int .i64 o, .int .i64 d, .int .i64 a, .int .i64 b, .int .i64 imm] 25)).cell? ⟨Z, 0, none⟩ = some (.int .i64 p) := (b1.cell 0).trans rfl
  have f0 := b1.frozen 0
  have i0a : (0 : Int) ≤ (a : Int) := by omega
  have i1a : (a : Int) < 8 := by omega
  have za := (b1.cell (1 + a)).trans (stV_get p R a ha)
  have fa := b1.frozen (1 + a)
  clear bI
  by_cases h0 : R a = 0
  · have e0 : (R a == 0) = true := by simp [h0]
    rw [if_pos h0]
    clear h0
    go_enter Tryz.func104, Tryz.ntmps104
    go_wp2_with fail
    go_region
    all_goals (try go_wp2_with fail)
    all_goals go_end0
    all_goals exact ⟨rfl, by have := b1.set_ 0 (.int .i64 imm); rw [stV_pc] at this; exact this, (by repeat (first | exact o1 | refine Only.drew ?_ | refine Only.drewN ?_ _ | refine Only.setCell ?_ (.inl (by simp)) _))⟩
  · have e0 : (R a == 0) = false := by simp [h0]
    rw [if_neg h0]
    clear h0
    go_enter Tryz.func104, Tryz.ntmps104
    go_wp2_with fail
    go_region
    all_goals (try go_wp2_with fail)
    all_goals go_end0
    all_goals exact ⟨rfl, b1, (by repeat (first | exact o1 | refine Only.drew ?_ | refine Only.drewN ?_ _ | refine Only.setCell ?_ (.inl (by simp)) _))⟩
end Go.Proofs.YtmaljajdmgkakaaGreatDoor
