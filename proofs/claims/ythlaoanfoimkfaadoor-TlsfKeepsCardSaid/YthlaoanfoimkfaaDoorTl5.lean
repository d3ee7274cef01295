/- Tlsf: the law's do, kinds 1, 2 and 4: walks. Condition: the contracts of what it calls. -/
import Derived.Test.YthlaoanfoimkfaaDoorTlA
import Derived.Deep.RegionHeld3
namespace Go.Proofs.YthlaoanfoimkfaaDoor
open Go.RowKit Go.Shelf
set_option linter.unusedVariables false
set_option linter.all false
set_option maxRecDepth 100000
section
variable {w w' : World} {p h r : Nat}
set_option maxHeartbeats 4000000 in
theorem do1_ok {n q a o : Int} {odd : Bool} {wv b f was : Nat} {z : Int} {J1 J2 J3 J4 : World → Prop} {S1 S2 : List Nat} (hS : ∀ x ∈ S1, x < w.heap.size) (hS2 : ∀ x ∈ S2, x < w.heap.size) 
    (OFF : ∀ W, Only [] w W → Calls Tryd.prog 23 #[.pointer (some ⟨p, 0, none⟩), .agg #[.int .i64 1, .int .i64 n, .int .i64 q, .int .i64 a, .bool odd, .int .u32 wv]] W fun e w' => e = .returned (.int .i64 o) ∧ Only [] W w')
    (S0 : ∀ W, Only [] w W → W.cell? ⟨p, 0, none⟩ = some (.pointer (some ⟨h, 0, none⟩)) ∧ W.cell? ⟨p, 1, none⟩ = some (.pointer (some ⟨r, 0, none⟩)))
    (AL : ∀ W, Only [] w W → Calls Tryd.prog 15 #[.pointer (some ⟨h, 0, none⟩), .int .i64 n] W fun e w' => e = .returned (.tuple #[.int .i64 (b : Nat), .int .i64 0]) ∧ Only S1 W w' ∧ J1 w')
    (R1 : ∀ W, J1 W → J1 W.drew ∧ W.cell? ⟨p, 0, none⟩ = some (.pointer (some ⟨h, 0, none⟩)) ∧ W.cell? ⟨p, 1, none⟩ = some (.pointer (some ⟨r, 0, none⟩)))
    (AR : ∀ W, J1 W → Calls Tryd.prog 24 #[.pointer (some ⟨r, 0, none⟩), .int .i64 n] W fun e w' => e = .returned (.tuple #[.int .i64 (b : Nat), .int .i64 0]) ∧ Only S2 W w' ∧ J2 w')
    (R2 : ∀ W, J2 W → W.cell? ⟨p, 1, none⟩ = some (.pointer (some ⟨r, 0, none⟩)))
    (GT : ∀ W, J2 W → Calls Tryd.prog 25 #[.pointer (some ⟨p, 0, none⟩), .int .i64 (b : Nat), .int .i64 0, .int .i64 (b : Nat), .int .i64 0] W fun e w' => e = .returned (.bool true) ∧ J3 w')
    (FR : ∀ W, J3 W → Calls Tryd.prog 26 #[.pointer (some ⟨p, 0, none⟩), .int .i64 (b : Nat), .int .i64 0] W fun e w' => e = .returned (.bool true) ∧ J4 w')
    : Calls Tryd.prog 8 #[.pointer (some ⟨p, 0, none⟩), .agg #[.int .i64 1, .int .i64 n, .int .i64 q, .int .i64 a, .bool odd, .int .u32 wv]] w fun e w' => e = .returned (.bool true) ∧ J4 w' := by
  have OFF := Lib.hid OFF
  have S0 := Lib.hid S0
  have AL := Lib.hid AL
  have R1 := Lib.hid R1
  have AR := Lib.hid AR
  have R2 := Lib.hid R2
  have GT := Lib.hid GT
  have HS := Lib.hid hS
  have HS2 := Lib.hid hS2
  have FR := Lib.hid FR
  clear hS hS2
  go_enter Tryd.func8, Tryd.ntmps8
  go_wp2_with (first
    | (go_at_call 23; (with_reducible refine (OFF.out _ ((Only.refl [] w).alloc _)).mono ?_); rintro e w1 ⟨rfl, o1⟩; have B1 := (Blk.new w 35 #[.int .i64 1, .int .i64 n, .int .i64 q, .int .i64 a, .bool odd, .int .u32 wv]).only o1 (by simp); have O1 := Lib.hid (((Only.refl [] w).alloc (.cells #[.int .i64 1, .int .i64 n, .int .i64 q, .int .i64 a, .bool odd, .int .u32 wv] 35)).trans0 o1); obtain ⟨p0, p1⟩ := S0.out w1 O1.out; have x0 : w1.cell? ⟨w.heap.size, 0, none⟩ = some (.int .i64 1) := (by simpa using B1.cell 0); have x1 : w1.cell? ⟨w.heap.size, 1, none⟩ = some (.int .i64 n) := (by simpa using B1.cell 1); clear o1))
  have HB1 := Lib.hid B1
  clear B1
  go_region_held3 (fun W => W.cell? ⟨p, 0, none⟩ = some (.pointer (some ⟨h, 0, none⟩)) ∧ W.cell? ⟨w.heap.size, 1, none⟩ = some (.int .i64 n)) (first | go_keep | exact ⟨p0, x1⟩)
    (first | (go_at_call 15; (with_reducible refine (AL.out _ (O1.out.drew)).mono ?_); rintro e w2 ⟨rfl, o2, j2⟩; have B2 := (HB1.out.only ((Only.refl [] _).drew) (by simp)).only o2 (fun hm => Nat.lt_irrefl _ (HS.out _ hm)); obtain ⟨d2, p0, p1⟩ := R1.out _ j2; have x1 : w2.cell? ⟨w.heap.size, 1, none⟩ = some (.int .i64 n) := (by simpa using B2.cell 1); have HB2 := Lib.hid B2; have D2 := Lib.hid d2; clear o2 j2 B2 d2))
  go_wp2
  go_region_held3 (fun W => W.cell? ⟨p, 1, none⟩ = some (.pointer (some ⟨r, 0, none⟩)) ∧ W.cell? ⟨w.heap.size, 1, none⟩ = some (.int .i64 n)) (first | go_keep | exact ⟨p1, x1⟩)
    (first | (go_at_call 24; (with_reducible refine (AR.out _ D2.out).mono ?_); rintro e w3 ⟨rfl, o3, j3⟩; have B3 := (HB2.out.only ((Only.refl [] _).drew) (by simp)).only o3 (fun hm => Nat.lt_irrefl _ (HS2.out _ hm)); have p1 := R2.out _ j3; have x1 : w3.cell? ⟨w.heap.size, 1, none⟩ = some (.int .i64 n) := (by simpa using B3.cell 1); have G3 := Lib.hid j3; clear o3 j3 B3))
  go_wp2_with (first
    | (go_at_call 25; (with_reducible refine (GT.out _ G3.out).mono ?_); rintro e w4 ⟨rfl, j4⟩; have G4 := Lib.hid j4; clear j4)
    | (go_at_call 26; (with_reducible refine (FR.out _ G4.out).mono ?_); rintro e w5 ⟨rfl, j5⟩))
  go_ret
  exact ⟨by simp, j5⟩
set_option maxHeartbeats 4000000 in
theorem do1_err {n q a o : Int} {odd : Bool} {wv b f was : Nat} {z : Int} {J1 J2 J3 J4 : World → Prop} {S1 S2 : List Nat} (hS : ∀ x ∈ S1, x < w.heap.size) (hS2 : ∀ x ∈ S2, x < w.heap.size) (hf : f ≠ 0)
    (OFF : ∀ W, Only [] w W → Calls Tryd.prog 23 #[.pointer (some ⟨p, 0, none⟩), .agg #[.int .i64 1, .int .i64 n, .int .i64 q, .int .i64 a, .bool odd, .int .u32 wv]] W fun e w' => e = .returned (.int .i64 o) ∧ Only [] W w')
    (S0 : ∀ W, Only [] w W → W.cell? ⟨p, 0, none⟩ = some (.pointer (some ⟨h, 0, none⟩)) ∧ W.cell? ⟨p, 1, none⟩ = some (.pointer (some ⟨r, 0, none⟩)))
    (AL : ∀ W, Only [] w W → Calls Tryd.prog 15 #[.pointer (some ⟨h, 0, none⟩), .int .i64 n] W fun e w' => e = .returned (.tuple #[.int .i64 (b : Nat), .int .i64 (f : Nat)]) ∧ Only S1 W w' ∧ J1 w')
    (R1 : ∀ W, J1 W → J1 W.drew ∧ W.cell? ⟨p, 0, none⟩ = some (.pointer (some ⟨h, 0, none⟩)) ∧ W.cell? ⟨p, 1, none⟩ = some (.pointer (some ⟨r, 0, none⟩)))
    (AR : ∀ W, J1 W → Calls Tryd.prog 24 #[.pointer (some ⟨r, 0, none⟩), .int .i64 n] W fun e w' => e = .returned (.tuple #[.int .i64 (b : Nat), .int .i64 (f : Nat)]) ∧ Only S2 W w' ∧ J2 w')
    (R2 : ∀ W, J2 W → W.cell? ⟨p, 1, none⟩ = some (.pointer (some ⟨r, 0, none⟩)))
    (GT : ∀ W, J2 W → Calls Tryd.prog 25 #[.pointer (some ⟨p, 0, none⟩), .int .i64 (b : Nat), .int .i64 (f : Nat), .int .i64 (b : Nat), .int .i64 (f : Nat)] W fun e w' => e = .returned (.bool true) ∧ J3 w')
    : Calls Tryd.prog 8 #[.pointer (some ⟨p, 0, none⟩), .agg #[.int .i64 1, .int .i64 n, .int .i64 q, .int .i64 a, .bool odd, .int .u32 wv]] w fun e w' => e = .returned (.bool true) ∧ J3 w' := by
  have OFF := Lib.hid OFF
  have S0 := Lib.hid S0
  have AL := Lib.hid AL
  have R1 := Lib.hid R1
  have AR := Lib.hid AR
  have R2 := Lib.hid R2
  have GT := Lib.hid GT
  have HS := Lib.hid hS
  have HS2 := Lib.hid hS2
  have hf1 : ((f : Int) == 0) = false := by simp; omega
  have hf2 : ¬ ((f : Int) = 0) := by omega
  have hf3 : ((f : Int) != 0) = true := by simp; omega
  clear hS hS2
  go_enter Tryd.func8, Tryd.ntmps8
  go_wp2_with (first
    | (go_at_call 23; (with_reducible refine (OFF.out _ ((Only.refl [] w).alloc _)).mono ?_); rintro e w1 ⟨rfl, o1⟩; have B1 := (Blk.new w 35 #[.int .i64 1, .int .i64 n, .int .i64 q, .int .i64 a, .bool odd, .int .u32 wv]).only o1 (by simp); have O1 := Lib.hid (((Only.refl [] w).alloc (.cells #[.int .i64 1, .int .i64 n, .int .i64 q, .int .i64 a, .bool odd, .int .u32 wv] 35)).trans0 o1); obtain ⟨p0, p1⟩ := S0.out w1 O1.out; have x0 : w1.cell? ⟨w.heap.size, 0, none⟩ = some (.int .i64 1) := (by simpa using B1.cell 0); have x1 : w1.cell? ⟨w.heap.size, 1, none⟩ = some (.int .i64 n) := (by simpa using B1.cell 1); clear o1))
  have HB1 := Lib.hid B1
  clear B1
  go_region_held3 (fun W => W.cell? ⟨p, 0, none⟩ = some (.pointer (some ⟨h, 0, none⟩)) ∧ W.cell? ⟨w.heap.size, 1, none⟩ = some (.int .i64 n)) (first | go_keep | exact ⟨p0, x1⟩)
    (first | (go_at_call 15; (with_reducible refine (AL.out _ (O1.out.drew)).mono ?_); rintro e w2 ⟨rfl, o2, j2⟩; have B2 := (HB1.out.only ((Only.refl [] _).drew) (by simp)).only o2 (fun hm => Nat.lt_irrefl _ (HS.out _ hm)); obtain ⟨d2, p0, p1⟩ := R1.out _ j2; have x1 : w2.cell? ⟨w.heap.size, 1, none⟩ = some (.int .i64 n) := (by simpa using B2.cell 1); have HB2 := Lib.hid B2; have D2 := Lib.hid d2; clear o2 j2 B2 d2))
  go_wp2
  go_region_held3 (fun W => W.cell? ⟨p, 1, none⟩ = some (.pointer (some ⟨r, 0, none⟩)) ∧ W.cell? ⟨w.heap.size, 1, none⟩ = some (.int .i64 n)) (first | go_keep | exact ⟨p1, x1⟩)
    (first | (go_at_call 24; (with_reducible refine (AR.out _ D2.out).mono ?_); rintro e w3 ⟨rfl, o3, j3⟩; have B3 := (HB2.out.only ((Only.refl [] _).drew) (by simp)).only o3 (fun hm => Nat.lt_irrefl _ (HS2.out _ hm)); have p1 := R2.out _ j3; have x1 : w3.cell? ⟨w.heap.size, 1, none⟩ = some (.int .i64 n) := (by simpa using B3.cell 1); have G3 := Lib.hid j3; clear o3 j3 B3))
  go_wp2_with (first
    | (go_at_call 25; (with_reducible refine (GT.out _ G3.out).mono ?_); rintro e w4 ⟨rfl, j4⟩; have G4 := Lib.hid j4; clear j4))
  go_ret
  exact ⟨by simp, G4.out⟩
set_option maxHeartbeats 4000000 in
theorem do2_ok {n q a o : Int} {odd : Bool} {wv b f was : Nat} {z : Int} {J1 J2 J3 J4 : World → Prop} {S1 S2 : List Nat} (hS : ∀ x ∈ S1, x < w.heap.size) (hS2 : ∀ x ∈ S2, x < w.heap.size) 
    (OFF : ∀ W, Only [] w W → Calls Tryd.prog 23 #[.pointer (some ⟨p, 0, none⟩), .agg #[.int .i64 2, .int .i64 n, .int .i64 q, .int .i64 a, .bool odd, .int .u32 wv]] W fun e w' => e = .returned (.int .i64 o) ∧ Only [] W w')
    (S0 : ∀ W, Only [] w W → W.cell? ⟨p, 0, none⟩ = some (.pointer (some ⟨h, 0, none⟩)) ∧ W.cell? ⟨p, 1, none⟩ = some (.pointer (some ⟨r, 0, none⟩)))
    (AL : ∀ W, Only [] w W → Calls Tryd.prog 27 #[.pointer (some ⟨h, 0, none⟩), .int .i64 q, .int .i64 n] W fun e w' => e = .returned (.tuple #[.int .i64 (b : Nat), .int .i64 0]) ∧ Only S1 W w' ∧ J1 w')
    (R1 : ∀ W, J1 W → J1 W.drew ∧ W.cell? ⟨p, 0, none⟩ = some (.pointer (some ⟨h, 0, none⟩)) ∧ W.cell? ⟨p, 1, none⟩ = some (.pointer (some ⟨r, 0, none⟩)))
    (AR : ∀ W, J1 W → Calls Tryd.prog 28 #[.pointer (some ⟨r, 0, none⟩), .int .i64 q, .int .i64 n] W fun e w' => e = .returned (.tuple #[.int .i64 (b : Nat), .int .i64 0]) ∧ Only S2 W w' ∧ J2 w')
    (R2 : ∀ W, J2 W → W.cell? ⟨p, 1, none⟩ = some (.pointer (some ⟨r, 0, none⟩)))
    (GT : ∀ W, J2 W → Calls Tryd.prog 25 #[.pointer (some ⟨p, 0, none⟩), .int .i64 (b : Nat), .int .i64 0, .int .i64 (b : Nat), .int .i64 0] W fun e w' => e = .returned (.bool true) ∧ J3 w')
    (FR : ∀ W, J3 W → Calls Tryd.prog 26 #[.pointer (some ⟨p, 0, none⟩), .int .i64 (b : Nat), .int .i64 0] W fun e w' => e = .returned (.bool true) ∧ J4 w')
    : Calls Tryd.prog 8 #[.pointer (some ⟨p, 0, none⟩), .agg #[.int .i64 2, .int .i64 n, .int .i64 q, .int .i64 a, .bool odd, .int .u32 wv]] w fun e w' => e = .returned (.bool true) ∧ J4 w' := by
  have OFF := Lib.hid OFF
  have S0 := Lib.hid S0
  have AL := Lib.hid AL
  have R1 := Lib.hid R1
  have AR := Lib.hid AR
  have R2 := Lib.hid R2
  have GT := Lib.hid GT
  have HS := Lib.hid hS
  have HS2 := Lib.hid hS2
  have FR := Lib.hid FR
  clear hS hS2
  go_enter Tryd.func8, Tryd.ntmps8
  go_wp2_with (first
    | (go_at_call 23; (with_reducible refine (OFF.out _ ((Only.refl [] w).alloc _)).mono ?_); rintro e w1 ⟨rfl, o1⟩; have B1 := (Blk.new w 35 #[.int .i64 2, .int .i64 n, .int .i64 q, .int .i64 a, .bool odd, .int .u32 wv]).only o1 (by simp); have O1 := Lib.hid (((Only.refl [] w).alloc (.cells #[.int .i64 2, .int .i64 n, .int .i64 q, .int .i64 a, .bool odd, .int .u32 wv] 35)).trans0 o1); obtain ⟨p0, p1⟩ := S0.out w1 O1.out; have x0 : w1.cell? ⟨w.heap.size, 0, none⟩ = some (.int .i64 2) := (by simpa using B1.cell 0); have x1 : w1.cell? ⟨w.heap.size, 1, none⟩ = some (.int .i64 n) := (by simpa using B1.cell 1); have x2 : w1.cell? ⟨w.heap.size, 2, none⟩ = some (.int .i64 q) := (by simpa using B1.cell 2); clear o1))
  have HB1 := Lib.hid B1
  clear B1
  go_region_held3 (fun W => W.cell? ⟨p, 0, none⟩ = some (.pointer (some ⟨h, 0, none⟩)) ∧ W.cell? ⟨w.heap.size, 1, none⟩ = some (.int .i64 n) ∧ W.cell? ⟨w.heap.size, 2, none⟩ = some (.int .i64 q)) (first | go_keep | exact ⟨p0, x1, x2⟩)
    (first | (go_at_call 27; (with_reducible refine (AL.out _ (O1.out.drew)).mono ?_); rintro e w2 ⟨rfl, o2, j2⟩; have B2 := (HB1.out.only ((Only.refl [] _).drew) (by simp)).only o2 (fun hm => Nat.lt_irrefl _ (HS.out _ hm)); obtain ⟨d2, p0, p1⟩ := R1.out _ j2; have x1 : w2.cell? ⟨w.heap.size, 1, none⟩ = some (.int .i64 n) := (by simpa using B2.cell 1); have x2 : w2.cell? ⟨w.heap.size, 2, none⟩ = some (.int .i64 q) := (by simpa using B2.cell 2); have HB2 := Lib.hid B2; have D2 := Lib.hid d2; clear o2 j2 B2 d2))
  go_wp2
  go_region_held3 (fun W => W.cell? ⟨p, 1, none⟩ = some (.pointer (some ⟨r, 0, none⟩)) ∧ W.cell? ⟨w.heap.size, 1, none⟩ = some (.int .i64 n) ∧ W.cell? ⟨w.heap.size, 2, none⟩ = some (.int .i64 q)) (first | go_keep | exact ⟨p1, x1, x2⟩)
    (first | (go_at_call 28; (with_reducible refine (AR.out _ D2.out).mono ?_); rintro e w3 ⟨rfl, o3, j3⟩; have B3 := (HB2.out.only ((Only.refl [] _).drew) (by simp)).only o3 (fun hm => Nat.lt_irrefl _ (HS2.out _ hm)); have p1 := R2.out _ j3; have x1 : w3.cell? ⟨w.heap.size, 1, none⟩ = some (.int .i64 n) := (by simpa using B3.cell 1); have x2 : w3.cell? ⟨w.heap.size, 2, none⟩ = some (.int .i64 q) := (by simpa using B3.cell 2); have G3 := Lib.hid j3; clear o3 j3 B3))
  go_wp2_with (first
    | (go_at_call 25; (with_reducible refine (GT.out _ G3.out).mono ?_); rintro e w4 ⟨rfl, j4⟩; have G4 := Lib.hid j4; clear j4)
    | (go_at_call 26; (with_reducible refine (FR.out _ G4.out).mono ?_); rintro e w5 ⟨rfl, j5⟩))
  go_ret
  exact ⟨by simp, j5⟩
set_option maxHeartbeats 4000000 in
theorem do2_err {n q a o : Int} {odd : Bool} {wv b f was : Nat} {z : Int} {J1 J2 J3 J4 : World → Prop} {S1 S2 : List Nat} (hS : ∀ x ∈ S1, x < w.heap.size) (hS2 : ∀ x ∈ S2, x < w.heap.size) (hf : f ≠ 0)
    (OFF : ∀ W, Only [] w W → Calls Tryd.prog 23 #[.pointer (some ⟨p, 0, none⟩), .agg #[.int .i64 2, .int .i64 n, .int .i64 q, .int .i64 a, .bool odd, .int .u32 wv]] W fun e w' => e = .returned (.int .i64 o) ∧ Only [] W w')
    (S0 : ∀ W, Only [] w W → W.cell? ⟨p, 0, none⟩ = some (.pointer (some ⟨h, 0, none⟩)) ∧ W.cell? ⟨p, 1, none⟩ = some (.pointer (some ⟨r, 0, none⟩)))
    (AL : ∀ W, Only [] w W → Calls Tryd.prog 27 #[.pointer (some ⟨h, 0, none⟩), .int .i64 q, .int .i64 n] W fun e w' => e = .returned (.tuple #[.int .i64 (b : Nat), .int .i64 (f : Nat)]) ∧ Only S1 W w' ∧ J1 w')
    (R1 : ∀ W, J1 W → J1 W.drew ∧ W.cell? ⟨p, 0, none⟩ = some (.pointer (some ⟨h, 0, none⟩)) ∧ W.cell? ⟨p, 1, none⟩ = some (.pointer (some ⟨r, 0, none⟩)))
    (AR : ∀ W, J1 W → Calls Tryd.prog 28 #[.pointer (some ⟨r, 0, none⟩), .int .i64 q, .int .i64 n] W fun e w' => e = .returned (.tuple #[.int .i64 (b : Nat), .int .i64 (f : Nat)]) ∧ Only S2 W w' ∧ J2 w')
    (R2 : ∀ W, J2 W → W.cell? ⟨p, 1, none⟩ = some (.pointer (some ⟨r, 0, none⟩)))
    (GT : ∀ W, J2 W → Calls Tryd.prog 25 #[.pointer (some ⟨p, 0, none⟩), .int .i64 (b : Nat), .int .i64 (f : Nat), .int .i64 (b : Nat), .int .i64 (f : Nat)] W fun e w' => e = .returned (.bool true) ∧ J3 w')
    : Calls Tryd.prog 8 #[.pointer (some ⟨p, 0, none⟩), .agg #[.int .i64 2, .int .i64 n, .int .i64 q, .int .i64 a, .bool odd, .int .u32 wv]] w fun e w' => e = .returned (.bool true) ∧ J3 w' := by
  have OFF := Lib.hid OFF
  have S0 := Lib.hid S0
  have AL := Lib.hid AL
  have R1 := Lib.hid R1
  have AR := Lib.hid AR
  have R2 := Lib.hid R2
  have GT := Lib.hid GT
  have HS := Lib.hid hS
  have HS2 := Lib.hid hS2
  have hf1 : ((f : Int) == 0) = false := by simp; omega
  have hf2 : ¬ ((f : Int) = 0) := by omega
  have hf3 : ((f : Int) != 0) = true := by simp; omega
  clear hS hS2
  go_enter Tryd.func8, Tryd.ntmps8
  go_wp2_with (first
    | (go_at_call 23; (with_reducible refine (OFF.out _ ((Only.refl [] w).alloc _)).mono ?_); rintro e w1 ⟨rfl, o1⟩; have B1 := (Blk.new w 35 #[.int .i64 2, .int .i64 n, .int .i64 q, .int .i64 a, .bool odd, .int .u32 wv]).only o1 (by simp); have O1 := Lib.hid (((Only.refl [] w).alloc (.cells #[.int .i64 2, .int .i64 n, .int .i64 q, .int .i64 a, .bool odd, .int .u32 wv] 35)).trans0 o1); obtain ⟨p0, p1⟩ := S0.out w1 O1.out; have x0 : w1.cell? ⟨w.heap.size, 0, none⟩ = some (.int .i64 2) := (by simpa using B1.cell 0); have x1 : w1.cell? ⟨w.heap.size, 1, none⟩ = some (.int .i64 n) := (by simpa using B1.cell 1); have x2 : w1.cell? ⟨w.heap.size, 2, none⟩ = some (.int .i64 q) := (by simpa using B1.cell 2); clear o1))
  have HB1 := Lib.hid B1
  clear B1
  go_region_held3 (fun W => W.cell? ⟨p, 0, none⟩ = some (.pointer (some ⟨h, 0, none⟩)) ∧ W.cell? ⟨w.heap.size, 1, none⟩ = some (.int .i64 n) ∧ W.cell? ⟨w.heap.size, 2, none⟩ = some (.int .i64 q)) (first | go_keep | exact ⟨p0, x1, x2⟩)
    (first | (go_at_call 27; (with_reducible refine (AL.out _ (O1.out.drew)).mono ?_); rintro e w2 ⟨rfl, o2, j2⟩; have B2 := (HB1.out.only ((Only.refl [] _).drew) (by simp)).only o2 (fun hm => Nat.lt_irrefl _ (HS.out _ hm)); obtain ⟨d2, p0, p1⟩ := R1.out _ j2; have x1 : w2.cell? ⟨w.heap.size, 1, none⟩ = some (.int .i64 n) := (by simpa using B2.cell 1); have x2 : w2.cell? ⟨w.heap.size, 2, none⟩ = some (.int .i64 q) := (by simpa using B2.cell 2); have HB2 := Lib.hid B2; have D2 := Lib.hid d2; clear o2 j2 B2 d2))
  go_wp2
  go_region_held3 (fun W => W.cell? ⟨p, 1, none⟩ = some (.pointer (some ⟨r, 0, none⟩)) ∧ W.cell? ⟨w.heap.size, 1, none⟩ = some (.int .i64 n) ∧ W.cell? ⟨w.heap.size, 2, none⟩ = some (.int .i64 q)) (first | go_keep | exact ⟨p1, x1, x2⟩)
    (first | (go_at_call 28; (with_reducible refine (AR.out _ D2.out).mono ?_); rintro e w3 ⟨rfl, o3, j3⟩; have B3 := (HB2.out.only ((Only.refl [] _).drew) (by simp)).only o3 (fun hm => Nat.lt_irrefl _ (HS2.out _ hm)); have p1 := R2.out _ j3; have x1 : w3.cell? ⟨w.heap.size, 1, none⟩ = some (.int .i64 n) := (by simpa using B3.cell 1); have x2 : w3.cell? ⟨w.heap.size, 2, none⟩ = some (.int .i64 q) := (by simpa using B3.cell 2); have G3 := Lib.hid j3; clear o3 j3 B3))
  go_wp2_with (first
    | (go_at_call 25; (with_reducible refine (GT.out _ G3.out).mono ?_); rintro e w4 ⟨rfl, j4⟩; have G4 := Lib.hid j4; clear j4))
  go_ret
  exact ⟨by simp, G4.out⟩
set_option maxHeartbeats 4000000 in
theorem do4_ok {n q a o : Int} {odd : Bool} {wv b f was : Nat} {z : Int} {J1 J2 J3 J4 : World → Prop} {S1 S2 : List Nat} (hS : ∀ x ∈ S1, x < w.heap.size) (hS2 : ∀ x ∈ S2, x < w.heap.size) 
    (OFF : ∀ W, Only [] w W → Calls Tryd.prog 23 #[.pointer (some ⟨p, 0, none⟩), .agg #[.int .i64 4, .int .i64 n, .int .i64 q, .int .i64 a, .bool odd, .int .u32 wv]] W fun e w' => e = .returned (.int .i64 o) ∧ Only [] W w')
    (S0 : ∀ W, Only [] w W → W.cell? ⟨p, 0, none⟩ = some (.pointer (some ⟨h, 0, none⟩)) ∧ W.cell? ⟨p, 1, none⟩ = some (.pointer (some ⟨r, 0, none⟩)))
    (SZ : ∀ W, Only [] w W → Calls Tryd.prog 30 #[.pointer (some ⟨r, 0, none⟩), .int .i64 o] W fun e w' => e = .returned (.tuple #[.int .i64 was, .int .i64 z]) ∧ W = w')
    (AL : ∀ W, Only [] w W → Calls Tryd.prog 19 #[.pointer (some ⟨h, 0, none⟩), .int .i64 o, .int .i64 n] W fun e w' => e = .returned (.tuple #[.int .i64 (b : Nat), .int .i64 0]) ∧ Only S1 W w' ∧ J1 w')
    (R1 : ∀ W, J1 W → J1 W.drew ∧ W.cell? ⟨p, 0, none⟩ = some (.pointer (some ⟨h, 0, none⟩)) ∧ W.cell? ⟨p, 1, none⟩ = some (.pointer (some ⟨r, 0, none⟩)))
    (AR : ∀ W, J1 W → Calls Tryd.prog 31 #[.pointer (some ⟨r, 0, none⟩), .int .i64 o, .int .i64 n] W fun e w' => e = .returned (.tuple #[.int .i64 (b : Nat), .int .i64 0]) ∧ Only S2 W w' ∧ J2 w')
    (R2 : ∀ W, J2 W → W.cell? ⟨p, 1, none⟩ = some (.pointer (some ⟨r, 0, none⟩)))
    (GT : ∀ W, J2 W → Calls Tryd.prog 25 #[.pointer (some ⟨p, 0, none⟩), .int .i64 (b : Nat), .int .i64 0, .int .i64 (b : Nat), .int .i64 0] W fun e w' => e = .returned (.bool true) ∧ J3 w')
    (FR : ∀ W, J3 W → Calls Tryd.prog 26 #[.pointer (some ⟨p, 0, none⟩), .int .i64 (b : Nat), .int .i64 (was : Int)] W fun e w' => e = .returned (.bool true) ∧ J4 w')
    : Calls Tryd.prog 8 #[.pointer (some ⟨p, 0, none⟩), .agg #[.int .i64 4, .int .i64 n, .int .i64 q, .int .i64 a, .bool odd, .int .u32 wv]] w fun e w' => e = .returned (.bool true) ∧ J4 w' := by
  have OFF := Lib.hid OFF
  have S0 := Lib.hid S0
  have AL := Lib.hid AL
  have R1 := Lib.hid R1
  have AR := Lib.hid AR
  have R2 := Lib.hid R2
  have GT := Lib.hid GT
  have HS := Lib.hid hS
  have HS2 := Lib.hid hS2
  have SZ := Lib.hid SZ
  have FR := Lib.hid FR
  clear hS hS2
  go_enter Tryd.func8, Tryd.ntmps8
  go_wp2_with (first
    | (go_at_call 23; (with_reducible refine (OFF.out _ ((Only.refl [] w).alloc _)).mono ?_); rintro e w1 ⟨rfl, o1⟩; have B1 := (Blk.new w 35 #[.int .i64 4, .int .i64 n, .int .i64 q, .int .i64 a, .bool odd, .int .u32 wv]).only o1 (by simp); have O1 := Lib.hid (((Only.refl [] w).alloc (.cells #[.int .i64 4, .int .i64 n, .int .i64 q, .int .i64 a, .bool odd, .int .u32 wv] 35)).trans0 o1); obtain ⟨p0, p1⟩ := S0.out w1 O1.out; have x0 : w1.cell? ⟨w.heap.size, 0, none⟩ = some (.int .i64 4) := (by simpa using B1.cell 0); have x1 : w1.cell? ⟨w.heap.size, 1, none⟩ = some (.int .i64 n) := (by simpa using B1.cell 1); clear o1)
    | (go_at_call 30; (with_reducible refine (SZ.out _ O1.out).mono ?_); rintro e w' ⟨rfl, rfl⟩))
  have HB1 := Lib.hid B1
  clear B1
  go_region_held3 (fun W => W.cell? ⟨p, 0, none⟩ = some (.pointer (some ⟨h, 0, none⟩)) ∧ W.cell? ⟨w.heap.size, 1, none⟩ = some (.int .i64 n)) (first | go_keep | exact ⟨p0, x1⟩)
    (first | (go_at_call 19; (with_reducible refine (AL.out _ (O1.out.drew)).mono ?_); rintro e w2 ⟨rfl, o2, j2⟩; have B2 := (HB1.out.only ((Only.refl [] _).drew) (by simp)).only o2 (fun hm => Nat.lt_irrefl _ (HS.out _ hm)); obtain ⟨d2, p0, p1⟩ := R1.out _ j2; have x1 : w2.cell? ⟨w.heap.size, 1, none⟩ = some (.int .i64 n) := (by simpa using B2.cell 1); have HB2 := Lib.hid B2; have D2 := Lib.hid d2; clear o2 j2 B2 d2))
  go_wp2
  go_region_held3 (fun W => W.cell? ⟨p, 1, none⟩ = some (.pointer (some ⟨r, 0, none⟩)) ∧ W.cell? ⟨w.heap.size, 1, none⟩ = some (.int .i64 n)) (first | go_keep | exact ⟨p1, x1⟩)
    (first | (go_at_call 31; (with_reducible refine (AR.out _ D2.out).mono ?_); rintro e w3 ⟨rfl, o3, j3⟩; have B3 := (HB2.out.only ((Only.refl [] _).drew) (by simp)).only o3 (fun hm => Nat.lt_irrefl _ (HS2.out _ hm)); have p1 := R2.out _ j3; have x1 : w3.cell? ⟨w.heap.size, 1, none⟩ = some (.int .i64 n) := (by simpa using B3.cell 1); have G3 := Lib.hid j3; clear o3 j3 B3))
  go_wp2_with (first
    | (go_at_call 25; (with_reducible refine (GT.out _ G3.out).mono ?_); rintro e w4 ⟨rfl, j4⟩; have G4 := Lib.hid j4; clear j4)
    | (go_at_call 26; (with_reducible refine (FR.out _ G4.out).mono ?_); rintro e w5 ⟨rfl, j5⟩))
  go_ret
  exact ⟨by simp, j5⟩
set_option maxHeartbeats 4000000 in
theorem do4_err {n q a o : Int} {odd : Bool} {wv b f was : Nat} {z : Int} {J1 J2 J3 J4 : World → Prop} {S1 S2 : List Nat} (hS : ∀ x ∈ S1, x < w.heap.size) (hS2 : ∀ x ∈ S2, x < w.heap.size) (hf : f ≠ 0)
    (OFF : ∀ W, Only [] w W → Calls Tryd.prog 23 #[.pointer (some ⟨p, 0, none⟩), .agg #[.int .i64 4, .int .i64 n, .int .i64 q, .int .i64 a, .bool odd, .int .u32 wv]] W fun e w' => e = .returned (.int .i64 o) ∧ Only [] W w')
    (S0 : ∀ W, Only [] w W → W.cell? ⟨p, 0, none⟩ = some (.pointer (some ⟨h, 0, none⟩)) ∧ W.cell? ⟨p, 1, none⟩ = some (.pointer (some ⟨r, 0, none⟩)))
    (SZ : ∀ W, Only [] w W → Calls Tryd.prog 30 #[.pointer (some ⟨r, 0, none⟩), .int .i64 o] W fun e w' => e = .returned (.tuple #[.int .i64 was, .int .i64 z]) ∧ W = w')
    (AL : ∀ W, Only [] w W → Calls Tryd.prog 19 #[.pointer (some ⟨h, 0, none⟩), .int .i64 o, .int .i64 n] W fun e w' => e = .returned (.tuple #[.int .i64 (b : Nat), .int .i64 (f : Nat)]) ∧ Only S1 W w' ∧ J1 w')
    (R1 : ∀ W, J1 W → J1 W.drew ∧ W.cell? ⟨p, 0, none⟩ = some (.pointer (some ⟨h, 0, none⟩)) ∧ W.cell? ⟨p, 1, none⟩ = some (.pointer (some ⟨r, 0, none⟩)))
    (AR : ∀ W, J1 W → Calls Tryd.prog 31 #[.pointer (some ⟨r, 0, none⟩), .int .i64 o, .int .i64 n] W fun e w' => e = .returned (.tuple #[.int .i64 (b : Nat), .int .i64 (f : Nat)]) ∧ Only S2 W w' ∧ J2 w')
    (R2 : ∀ W, J2 W → W.cell? ⟨p, 1, none⟩ = some (.pointer (some ⟨r, 0, none⟩)))
    (GT : ∀ W, J2 W → Calls Tryd.prog 25 #[.pointer (some ⟨p, 0, none⟩), .int .i64 (b : Nat), .int .i64 (f : Nat), .int .i64 (b : Nat), .int .i64 (f : Nat)] W fun e w' => e = .returned (.bool true) ∧ J3 w')
    : Calls Tryd.prog 8 #[.pointer (some ⟨p, 0, none⟩), .agg #[.int .i64 4, .int .i64 n, .int .i64 q, .int .i64 a, .bool odd, .int .u32 wv]] w fun e w' => e = .returned (.bool true) ∧ J3 w' := by
  have OFF := Lib.hid OFF
  have S0 := Lib.hid S0
  have AL := Lib.hid AL
  have R1 := Lib.hid R1
  have AR := Lib.hid AR
  have R2 := Lib.hid R2
  have GT := Lib.hid GT
  have HS := Lib.hid hS
  have HS2 := Lib.hid hS2
  have SZ := Lib.hid SZ
  have hf1 : ((f : Int) == 0) = false := by simp; omega
  have hf2 : ¬ ((f : Int) = 0) := by omega
  have hf3 : ((f : Int) != 0) = true := by simp; omega
  clear hS hS2
  go_enter Tryd.func8, Tryd.ntmps8
  go_wp2_with (first
    | (go_at_call 23; (with_reducible refine (OFF.out _ ((Only.refl [] w).alloc _)).mono ?_); rintro e w1 ⟨rfl, o1⟩; have B1 := (Blk.new w 35 #[.int .i64 4, .int .i64 n, .int .i64 q, .int .i64 a, .bool odd, .int .u32 wv]).only o1 (by simp); have O1 := Lib.hid (((Only.refl [] w).alloc (.cells #[.int .i64 4, .int .i64 n, .int .i64 q, .int .i64 a, .bool odd, .int .u32 wv] 35)).trans0 o1); obtain ⟨p0, p1⟩ := S0.out w1 O1.out; have x0 : w1.cell? ⟨w.heap.size, 0, none⟩ = some (.int .i64 4) := (by simpa using B1.cell 0); have x1 : w1.cell? ⟨w.heap.size, 1, none⟩ = some (.int .i64 n) := (by simpa using B1.cell 1); clear o1)
    | (go_at_call 30; (with_reducible refine (SZ.out _ O1.out).mono ?_); rintro e w' ⟨rfl, rfl⟩))
  have HB1 := Lib.hid B1
  clear B1
  go_region_held3 (fun W => W.cell? ⟨p, 0, none⟩ = some (.pointer (some ⟨h, 0, none⟩)) ∧ W.cell? ⟨w.heap.size, 1, none⟩ = some (.int .i64 n)) (first | go_keep | exact ⟨p0, x1⟩)
    (first | (go_at_call 19; (with_reducible refine (AL.out _ (O1.out.drew)).mono ?_); rintro e w2 ⟨rfl, o2, j2⟩; have B2 := (HB1.out.only ((Only.refl [] _).drew) (by simp)).only o2 (fun hm => Nat.lt_irrefl _ (HS.out _ hm)); obtain ⟨d2, p0, p1⟩ := R1.out _ j2; have x1 : w2.cell? ⟨w.heap.size, 1, none⟩ = some (.int .i64 n) := (by simpa using B2.cell 1); have HB2 := Lib.hid B2; have D2 := Lib.hid d2; clear o2 j2 B2 d2))
  go_wp2
  go_region_held3 (fun W => W.cell? ⟨p, 1, none⟩ = some (.pointer (some ⟨r, 0, none⟩)) ∧ W.cell? ⟨w.heap.size, 1, none⟩ = some (.int .i64 n)) (first | go_keep | exact ⟨p1, x1⟩)
    (first | (go_at_call 31; (with_reducible refine (AR.out _ D2.out).mono ?_); rintro e w3 ⟨rfl, o3, j3⟩; have B3 := (HB2.out.only ((Only.refl [] _).drew) (by simp)).only o3 (fun hm => Nat.lt_irrefl _ (HS2.out _ hm)); have p1 := R2.out _ j3; have x1 : w3.cell? ⟨w.heap.size, 1, none⟩ = some (.int .i64 n) := (by simpa using B3.cell 1); have G3 := Lib.hid j3; clear o3 j3 B3))
  go_wp2_with (first
    | (go_at_call 25; (with_reducible refine (GT.out _ G3.out).mono ?_); rintro e w4 ⟨rfl, j4⟩; have G4 := Lib.hid j4; clear j4))
  go_ret
  exact ⟨by simp, G4.out⟩
end
end Go.Proofs.YthlaoanfoimkfaaDoor
