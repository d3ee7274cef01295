/- Tlsf: the law's do, kinds 3, 5, 6 and any other: walks. Condition: the contracts of what it calls. -/
import Derived.Test.YthlaoanfoimkfaaDoorTlA
import Derived.Deep.RegionHeld3
namespace Go.Proofs.YthlaoanfoimkfaaDoor
open Go.RowKit Go.Shelf
set_option linter.unusedVariables false
set_option linter.all false
set_option maxRecDepth 100000
section
variable {w w' : World} {p h r : Nat}
set_option maxHeartbeats 4000000 in
theorem do3_walk {n q a o : Int} {odd : Bool} {wv f : Nat} {J1 J2 J3 J4 : World → Prop} {S1 S2 S3 : List Nat} (hS : ∀ x ∈ S1, x < w.heap.size)
    (OFF : ∀ W, Only [] w W → Calls Tryd.prog 23 #[.pointer (some ⟨p, 0, none⟩), .agg #[.int .i64 3, .int .i64 n, .int .i64 q, .int .i64 a, .bool odd, .int .u32 wv]] W fun e w' => e = .returned (.int .i64 o) ∧ Only [] W w')
    (S0 : ∀ W, Only [] w W → W.cell? ⟨p, 0, none⟩ = some (.pointer (some ⟨h, 0, none⟩)) ∧ W.cell? ⟨p, 1, none⟩ = some (.pointer (some ⟨r, 0, none⟩)))
    (FH : ∀ W, Only [] w W → Calls Tryd.prog 16 #[.pointer (some ⟨h, 0, none⟩), .int .i64 o] W fun e w' => e = .returned (.int .i64 f) ∧ J1 w')
    (R1 : ∀ W, J1 W → W.cell? ⟨p, 0, none⟩ = some (.pointer (some ⟨h, 0, none⟩)) ∧ W.cell? ⟨p, 1, none⟩ = some (.pointer (some ⟨r, 0, none⟩)))
    (FR : ∀ W, J1 W → Calls Tryd.prog 29 #[.pointer (some ⟨r, 0, none⟩), .int .i64 o] W fun e w' => e = .returned (.int .i64 f) ∧ J2 w')
    (R2 : ∀ W, J2 W → W.cell? ⟨p, 0, none⟩ = some (.pointer (some ⟨h, 0, none⟩)) ∧ W.cell? ⟨p, 1, none⟩ = some (.pointer (some ⟨r, 0, none⟩)))
    : Calls Tryd.prog 8 #[.pointer (some ⟨p, 0, none⟩), .agg #[.int .i64 3, .int .i64 n, .int .i64 q, .int .i64 a, .bool odd, .int .u32 wv]] w fun e w' => e = .returned (.bool true) ∧ J2 w' := by
  have OFF := Lib.hid OFF
  have S0 := Lib.hid S0
  have FH := Lib.hid FH
  have R1 := Lib.hid R1
  have FR := Lib.hid FR
  have R2 := Lib.hid R2
  go_enter Tryd.func8, Tryd.ntmps8
  go_wp2_with (first
    | (go_at_call 23; (with_reducible refine (OFF.out _ ((Only.refl [] w).alloc _)).mono ?_); rintro e w1 ⟨rfl, o1⟩; have B1 := (Blk.new w 35 #[.int .i64 3, .int .i64 n, .int .i64 q, .int .i64 a, .bool odd, .int .u32 wv]).only o1 (by simp); have O1 := Lib.hid (((Only.refl [] w).alloc (.cells #[.int .i64 3, .int .i64 n, .int .i64 q, .int .i64 a, .bool odd, .int .u32 wv] 35)).trans0 o1); obtain ⟨p0, p1⟩ := S0.out w1 O1.out; have x0 : w1.cell? ⟨w.heap.size, 0, none⟩ = some (.int .i64 3) := (by simpa using B1.cell 0); have HB1 := Lib.hid B1; clear o1 B1))
  go_region_held3 (fun W => W.cell? ⟨p, 0, none⟩ = some (.pointer (some ⟨h, 0, none⟩)) ∧ W.cell? ⟨p, 1, none⟩ = some (.pointer (some ⟨r, 0, none⟩))) (first | go_keep | exact ⟨p0, p1⟩)
    (first
    | (go_at_call 16; (with_reducible refine (FH.out _ (O1.out.drew)).mono ?_); rintro e w2 ⟨rfl, j2⟩; obtain ⟨p0, p1⟩ := R1.out _ j2; have G2 := Lib.hid j2; clear j2)
    | (go_at_call 10; (with_reducible refine (num_any _ _).mono ?_); rintro e w' ⟨rfl, rfl⟩)
    | (go_at_call 29; (with_reducible refine (FR.out _ G2.out).mono ?_); rintro e w3 ⟨rfl, j3⟩; obtain ⟨p0, p1⟩ := R2.out _ j3; have G3 := Lib.hid j3; clear j3))
  go_wp2
  go_ret
  exact ⟨by simp, G3.out⟩
set_option maxHeartbeats 4000000 in
theorem do5_far {n q a o : Int} {odd : Bool} {wv f : Nat} {J1 J2 J3 J4 : World → Prop} {S1 S2 S3 : List Nat} (hS : ∀ x ∈ S1, x < w.heap.size) (hf : a < 0 ∨ 1073741824 < a)
    (OFF : ∀ W, Only [] w W → Calls Tryd.prog 23 #[.pointer (some ⟨p, 0, none⟩), .agg #[.int .i64 5, .int .i64 n, .int .i64 q, .int .i64 a, .bool odd, .int .u32 wv]] W fun e w' => e = .returned (.int .i64 o) ∧ Only [] W w')
    (S0 : ∀ W, Only [] w W → W.cell? ⟨p, 0, none⟩ = some (.pointer (some ⟨h, 0, none⟩)) ∧ W.cell? ⟨p, 1, none⟩ = some (.pointer (some ⟨r, 0, none⟩)))
    (ST : ∀ W, Only [] w W → Calls Tryd.prog 32 #[.pointer (some ⟨h, 0, none⟩), .int .i64 a, .int .u32 wv] W fun e w' => e = .returned (.int .i64 2) ∧ Only S1 W w' ∧ J1 w')
    (R1 : ∀ W, J1 W → W.cell? ⟨p, 0, none⟩ = some (.pointer (some ⟨h, 0, none⟩)))
    : Calls Tryd.prog 8 #[.pointer (some ⟨p, 0, none⟩), .agg #[.int .i64 5, .int .i64 n, .int .i64 q, .int .i64 a, .bool odd, .int .u32 wv]] w fun e w' => e = .returned (.bool true) ∧ J1 w' := by
  have OFF := Lib.hid OFF
  have S0 := Lib.hid S0
  have ST := Lib.hid ST
  have R1 := Lib.hid R1
  have HS := Lib.hid hS
  clear hS
  have fin : ∀ (hlt : a < 0 ∨ ¬ a < 0 ∧ 1073741824 < a), True := fun _ => trivial
  rcases (by omega : a < 0 ∨ ¬ a < 0 ∧ 1073741824 < a) with h1 | ⟨h1, h2⟩
  · go_enter Tryd.func8, Tryd.ntmps8
    go_wp2_with (first
      | (go_at_call 23; (with_reducible refine (OFF.out _ ((Only.refl [] w).alloc _)).mono ?_); rintro e w1 ⟨rfl, o1⟩; have B1 := (Blk.new w 35 #[.int .i64 5, .int .i64 n, .int .i64 q, .int .i64 a, .bool odd, .int .u32 wv]).only o1 (by simp); have O1 := Lib.hid (((Only.refl [] w).alloc (.cells #[.int .i64 5, .int .i64 n, .int .i64 q, .int .i64 a, .bool odd, .int .u32 wv] 35)).trans0 o1); obtain ⟨p0, p1⟩ := S0.out w1 O1.out; have x0 : w1.cell? ⟨w.heap.size, 0, none⟩ = some (.int .i64 5) := (by simpa using B1.cell 0); have x3 : w1.cell? ⟨w.heap.size, 3, none⟩ = some (.int .i64 a) := (by simpa using B1.cell 3); have x5 : w1.cell? ⟨w.heap.size, 5, none⟩ = some (.int .u32 wv) := (by simpa using B1.cell 5); have HB1 := Lib.hid B1; clear o1 B1))
    go_region_held3 (fun W => W.cell? ⟨p, 0, none⟩ = some (.pointer (some ⟨h, 0, none⟩)) ∧ W.cell? ⟨w.heap.size, 3, none⟩ = some (.int .i64 a) ∧ W.cell? ⟨w.heap.size, 5, none⟩ = some (.int .u32 wv)) (first | go_keep | exact ⟨p0, x3, x5⟩)
      (first
      | (go_at_call 32; (with_reducible refine (ST.out _ (O1.out.drew)).mono ?_); rintro e w2 ⟨rfl, o2, j2⟩; have B2 := (HB1.out.only ((Only.refl [] _).drew) (by simp)).only o2 (fun hm => Nat.lt_irrefl _ (HS.out _ hm)); have p0 := R1.out _ j2; have x3 : w2.cell? ⟨w.heap.size, 3, none⟩ = some (.int .i64 a) := (by simpa using B2.cell 3); have x5 : w2.cell? ⟨w.heap.size, 5, none⟩ = some (.int .u32 wv) := (by simpa using B2.cell 5); have G2 := Lib.hid j2; clear j2 o2 B2)
      | (go_at_call 10; (with_reducible refine (num_any _ _).mono ?_); rintro e w' ⟨rfl, rfl⟩))
    go_wp2
    go_ret
    exact ⟨by simp, G2.out⟩
  · go_enter Tryd.func8, Tryd.ntmps8
    go_wp2_with (first
      | (go_at_call 23; (with_reducible refine (OFF.out _ ((Only.refl [] w).alloc _)).mono ?_); rintro e w1 ⟨rfl, o1⟩; have B1 := (Blk.new w 35 #[.int .i64 5, .int .i64 n, .int .i64 q, .int .i64 a, .bool odd, .int .u32 wv]).only o1 (by simp); have O1 := Lib.hid (((Only.refl [] w).alloc (.cells #[.int .i64 5, .int .i64 n, .int .i64 q, .int .i64 a, .bool odd, .int .u32 wv] 35)).trans0 o1); obtain ⟨p0, p1⟩ := S0.out w1 O1.out; have x0 : w1.cell? ⟨w.heap.size, 0, none⟩ = some (.int .i64 5) := (by simpa using B1.cell 0); have x3 : w1.cell? ⟨w.heap.size, 3, none⟩ = some (.int .i64 a) := (by simpa using B1.cell 3); have x5 : w1.cell? ⟨w.heap.size, 5, none⟩ = some (.int .u32 wv) := (by simpa using B1.cell 5); have HB1 := Lib.hid B1; clear o1 B1))
    go_region_held3 (fun W => W.cell? ⟨p, 0, none⟩ = some (.pointer (some ⟨h, 0, none⟩)) ∧ W.cell? ⟨w.heap.size, 3, none⟩ = some (.int .i64 a) ∧ W.cell? ⟨w.heap.size, 5, none⟩ = some (.int .u32 wv)) (first | go_keep | exact ⟨p0, x3, x5⟩)
      (first
      | (go_at_call 32; (with_reducible refine (ST.out _ (O1.out.drew)).mono ?_); rintro e w2 ⟨rfl, o2, j2⟩; have B2 := (HB1.out.only ((Only.refl [] _).drew) (by simp)).only o2 (fun hm => Nat.lt_irrefl _ (HS.out _ hm)); have p0 := R1.out _ j2; have x3 : w2.cell? ⟨w.heap.size, 3, none⟩ = some (.int .i64 a) := (by simpa using B2.cell 3); have x5 : w2.cell? ⟨w.heap.size, 5, none⟩ = some (.int .u32 wv) := (by simpa using B2.cell 5); have G2 := Lib.hid j2; clear j2 o2 B2)
      | (go_at_call 10; (with_reducible refine (num_any _ _).mono ?_); rintro e w' ⟨rfl, rfl⟩))
    go_wp2
    go_ret
    exact ⟨by simp, G2.out⟩
set_option maxHeartbeats 4000000 in
theorem do5_out_true {n q a o : Int} {odd : Bool} {wv f : Nat} {J1 J2 J3 J4 : World → Prop} {S1 S2 S3 : List Nat} (hS : ∀ x ∈ S1, x < w.heap.size) (hS2 : ∀ x ∈ S2, x < w.heap.size) (hS3 : ∀ x ∈ S3, x < w.heap.size) (ha : ¬ a < 0) (ha2 : ¬ 1073741824 < a)
    (OFF : ∀ W, Only [] w W → Calls Tryd.prog 23 #[.pointer (some ⟨p, 0, none⟩), .agg #[.int .i64 5, .int .i64 n, .int .i64 q, .int .i64 a, .bool true, .int .u32 wv]] W fun e w' => e = .returned (.int .i64 o) ∧ Only [] W w')
    (S0 : ∀ W, Only [] w W → W.cell? ⟨p, 0, none⟩ = some (.pointer (some ⟨h, 0, none⟩)) ∧ W.cell? ⟨p, 1, none⟩ = some (.pointer (some ⟨r, 0, none⟩)))
    (IN : ∀ W, Only [] w W → Calls Tryd.prog 33 #[.pointer (some ⟨r, 0, none⟩), .int .i64 o] W fun e w' => e = .returned (.bool false) ∧ Only S1 W w' ∧ J1 w')
    (R1 : ∀ W, J1 W → W.cell? ⟨p, 0, none⟩ = some (.pointer (some ⟨h, 0, none⟩)))
    (GE : ∀ W, J1 W → Calls Tryd.prog 9 #[.pointer (some ⟨h, 0, none⟩), .int .i64 o] W fun e w' => e = .returned (.tuple #[.int .u32 0, .int .i64 2]) ∧ Only S2 W w' ∧ J2 w')
    (R2 : ∀ W, J2 W → J2 W.drew ∧ W.cell? ⟨p, 0, none⟩ = some (.pointer (some ⟨h, 0, none⟩)))
    (ST : ∀ W, J2 W → Calls Tryd.prog 32 #[.pointer (some ⟨h, 0, none⟩), .int .i64 o, .int .u32 wv] W fun e w' => e = .returned (.int .i64 2) ∧ Only S3 W w' ∧ J3 w')
    (R3 : ∀ W, J3 W → W.cell? ⟨p, 0, none⟩ = some (.pointer (some ⟨h, 0, none⟩)))
    : Calls Tryd.prog 8 #[.pointer (some ⟨p, 0, none⟩), .agg #[.int .i64 5, .int .i64 n, .int .i64 q, .int .i64 a, .bool true, .int .u32 wv]] w fun e w' => e = .returned (.bool true) ∧ J3 w' := by
  have OFF := Lib.hid OFF
  have S0 := Lib.hid S0
  have IN := Lib.hid IN
  have R1 := Lib.hid R1
  have GE := Lib.hid GE
  have R2 := Lib.hid R2
  have ST := Lib.hid ST
  have R3 := Lib.hid R3
  have HS := Lib.hid hS
  have HS2 := Lib.hid hS2
  have HS3 := Lib.hid hS3
  clear hS hS2 hS3
  go_enter Tryd.func8, Tryd.ntmps8
  go_wp2_with (first
    | (go_at_call 23; (with_reducible refine (OFF.out _ ((Only.refl [] w).alloc _)).mono ?_); rintro e w1 ⟨rfl, o1⟩; have B1 := (Blk.new w 35 #[.int .i64 5, .int .i64 n, .int .i64 q, .int .i64 a, .bool true, .int .u32 wv]).only o1 (by simp); have O1 := Lib.hid (((Only.refl [] w).alloc (.cells #[.int .i64 5, .int .i64 n, .int .i64 q, .int .i64 a, .bool true, .int .u32 wv] 35)).trans0 o1); obtain ⟨p0, p1⟩ := S0.out w1 O1.out; have x0 : w1.cell? ⟨w.heap.size, 0, none⟩ = some (.int .i64 5) := (by simpa using B1.cell 0); have x1 : w1.cell? ⟨w.heap.size, 1, none⟩ = some (.int .i64 n) := (by simpa using B1.cell 1); have x3 : w1.cell? ⟨w.heap.size, 3, none⟩ = some (.int .i64 a) := (by simpa using B1.cell 3); have x4 : w1.cell? ⟨w.heap.size, 4, none⟩ = some (.bool true) := (by simpa using B1.cell 4); have x5 : w1.cell? ⟨w.heap.size, 5, none⟩ = some (.int .u32 wv) := (by simpa using B1.cell 5); have HB1 := Lib.hid B1; clear o1 B1)
    | (go_at_call 33; (with_reducible refine (IN.out _ O1.out).mono ?_); rintro e w2 ⟨rfl, o2', j2⟩; have B2 := HB1.out.only o2' (fun hm => Nat.lt_irrefl _ (HS.out _ hm)); have p0 := R1.out _ j2; have x5 : w2.cell? ⟨w.heap.size, 5, none⟩ = some (.int .u32 wv) := (by simpa using B2.cell 5); have G2 := Lib.hid j2; have HB2 := Lib.hid B2; clear j2 o2' B2)
    | (go_at_call 9; (with_reducible refine (GE.out _ G2.out).mono ?_); rintro e w3 ⟨rfl, o3, j3⟩; have B3 := HB2.out.only o3 (fun hm => Nat.lt_irrefl _ (HS2.out _ hm)); obtain ⟨d3, p0⟩ := R2.out _ j3; have x5 : w3.cell? ⟨w.heap.size, 5, none⟩ = some (.int .u32 wv) := (by simpa using B3.cell 5); have G3 := Lib.hid d3; have HB3 := Lib.hid B3; clear j3 o3 B3 d3))
  go_region_held3 (fun W => W.cell? ⟨p, 0, none⟩ = some (.pointer (some ⟨h, 0, none⟩)) ∧ W.cell? ⟨w.heap.size, 5, none⟩ = some (.int .u32 wv)) (first | go_keep | exact ⟨p0, x5⟩)
    (first
    | (go_at_call 10; (with_reducible refine (num_any _ _).mono ?_); rintro e w' ⟨rfl, rfl⟩)
    | (go_at_call 32; (with_reducible refine (ST.out _ G3.out).mono ?_); rintro e w4 ⟨rfl, o4, j4⟩; have B4 := (HB3.out.only ((Only.refl [] _).drew) (by simp)).only o4 (fun hm => Nat.lt_irrefl _ (HS3.out _ hm)); have p0 := R3.out _ j4; have x5 : w4.cell? ⟨w.heap.size, 5, none⟩ = some (.int .u32 wv) := (by simpa using B4.cell 5); have G4 := Lib.hid j4; clear j4 o4 B4))
  go_wp2
  go_ret
  exact ⟨by simp, G4.out⟩
set_option maxHeartbeats 4000000 in
theorem do5_in_true {n q a o : Int} {odd : Bool} {wv f : Nat} {J1 J2 J3 J4 : World → Prop} {S1 S2 S3 : List Nat} {S4 : List Nat} (hS : ∀ x ∈ S1, x < w.heap.size) (hS2 : ∀ x ∈ S2, x < w.heap.size) (hS3 : ∀ x ∈ S3, x < w.heap.size) (hS4 : ∀ x ∈ S4, x < w.heap.size) (ha : ¬ a < 0) (ha2 : ¬ 1073741824 < a)
    (OFF : ∀ W, Only [] w W → Calls Tryd.prog 23 #[.pointer (some ⟨p, 0, none⟩), .agg #[.int .i64 5, .int .i64 n, .int .i64 q, .int .i64 a, .bool true, .int .u32 wv]] W fun e w' => e = .returned (.int .i64 o) ∧ Only [] W w')
    (S0 : ∀ W, Only [] w W → W.cell? ⟨p, 0, none⟩ = some (.pointer (some ⟨h, 0, none⟩)) ∧ W.cell? ⟨p, 1, none⟩ = some (.pointer (some ⟨r, 0, none⟩)))
    (IN : ∀ W, Only [] w W → Calls Tryd.prog 33 #[.pointer (some ⟨r, 0, none⟩), .int .i64 o] W fun e w' => e = .returned (.bool true) ∧ Only S1 W w' ∧ J1 w')
    (R1 : ∀ W, J1 W → J1 W.drew ∧ W.cell? ⟨p, 1, none⟩ = some (.pointer (some ⟨r, 0, none⟩)))
    (DS : ∀ W, J1 W → Calls Tryd.prog 34 #[.pointer (some ⟨r, 0, none⟩), .int .i64 o, .int .u32 wv] W fun e w' => e = .returned (.tuple #[]) ∧ Only S2 W w' ∧ J2 w')
    (R2 : ∀ W, J2 W → J2 W.drew ∧ W.cell? ⟨p, 0, none⟩ = some (.pointer (some ⟨h, 0, none⟩)) ∧ W.cell? ⟨p, 1, none⟩ = some (.pointer (some ⟨r, 0, none⟩)))
    (ST : ∀ W, J2 W → Calls Tryd.prog 32 #[.pointer (some ⟨h, 0, none⟩), .int .i64 o, .int .u32 wv] W fun e w' => e = .returned (.int .i64 0) ∧ Only S3 W w' ∧ J3 w')
    (R3 : ∀ W, J3 W → W.cell? ⟨p, 0, none⟩ = some (.pointer (some ⟨h, 0, none⟩)))
    (GE : ∀ W, J3 W → Calls Tryd.prog 9 #[.pointer (some ⟨h, 0, none⟩), .int .i64 o] W fun e w' => e = .returned (.tuple #[.int .u32 wv, .int .i64 0]) ∧ Only S4 W w' ∧ J4 w')
    : Calls Tryd.prog 8 #[.pointer (some ⟨p, 0, none⟩), .agg #[.int .i64 5, .int .i64 n, .int .i64 q, .int .i64 a, .bool true, .int .u32 wv]] w fun e w' => e = .returned (.bool true) ∧ J4 w' := by
  have OFF := Lib.hid OFF
  have S0 := Lib.hid S0
  have IN := Lib.hid IN
  have R1 := Lib.hid R1
  have DS := Lib.hid DS
  have GE := Lib.hid GE
  have R2 := Lib.hid R2
  have ST := Lib.hid ST
  have R3 := Lib.hid R3
  have HS := Lib.hid hS
  have HS2 := Lib.hid hS2
  have HS3 := Lib.hid hS3
  have HS4 := Lib.hid hS4
  clear hS hS2 hS3 hS4
  go_enter Tryd.func8, Tryd.ntmps8
  go_wp2_with (first
    | (go_at_call 23; (with_reducible refine (OFF.out _ ((Only.refl [] w).alloc _)).mono ?_); rintro e w1 ⟨rfl, o1⟩; have B1 := (Blk.new w 35 #[.int .i64 5, .int .i64 n, .int .i64 q, .int .i64 a, .bool true, .int .u32 wv]).only o1 (by simp); have O1 := Lib.hid (((Only.refl [] w).alloc (.cells #[.int .i64 5, .int .i64 n, .int .i64 q, .int .i64 a, .bool true, .int .u32 wv] 35)).trans0 o1); obtain ⟨p0, p1⟩ := S0.out w1 O1.out; have x0 : w1.cell? ⟨w.heap.size, 0, none⟩ = some (.int .i64 5) := (by simpa using B1.cell 0); have x1 : w1.cell? ⟨w.heap.size, 1, none⟩ = some (.int .i64 n) := (by simpa using B1.cell 1); have x3 : w1.cell? ⟨w.heap.size, 3, none⟩ = some (.int .i64 a) := (by simpa using B1.cell 3); have x4 : w1.cell? ⟨w.heap.size, 4, none⟩ = some (.bool true) := (by simpa using B1.cell 4); have x5 : w1.cell? ⟨w.heap.size, 5, none⟩ = some (.int .u32 wv) := (by simpa using B1.cell 5); have HB1 := Lib.hid B1; clear o1 B1)
    | (go_at_call 33; (with_reducible refine (IN.out _ O1.out).mono ?_); rintro e w2 ⟨rfl, o2', j2⟩; have B2 := HB1.out.only o2' (fun hm => Nat.lt_irrefl _ (HS.out _ hm)); obtain ⟨d2, p1⟩ := R1.out _ j2; have x5 : w2.cell? ⟨w.heap.size, 5, none⟩ = some (.int .u32 wv) := (by simpa using B2.cell 5); have G2 := Lib.hid d2; have HB2 := Lib.hid B2; clear j2 o2' B2 d2))
  go_region_held3 (fun W => W.cell? ⟨p, 1, none⟩ = some (.pointer (some ⟨r, 0, none⟩)) ∧ W.cell? ⟨w.heap.size, 5, none⟩ = some (.int .u32 wv)) (first | go_keep | exact ⟨p1, x5⟩)
    (first
    | (go_at_call 34; (with_reducible refine (DS.out _ G2.out).mono ?_); rintro e w3 ⟨rfl, o3, j3⟩; have B3 := (HB2.out.only ((Only.refl [] _).drew) (by simp)).only o3 (fun hm => Nat.lt_irrefl _ (HS2.out _ hm)); obtain ⟨d3, p0, p1⟩ := R2.out _ j3; have x5 : w3.cell? ⟨w.heap.size, 5, none⟩ = some (.int .u32 wv) := (by simpa using B3.cell 5); have G3 := Lib.hid d3; have HB3 := Lib.hid B3; clear j3 o3 B3 d3))
  go_wp2
  go_region_held3 (fun W => W.cell? ⟨p, 0, none⟩ = some (.pointer (some ⟨h, 0, none⟩)) ∧ W.cell? ⟨w.heap.size, 5, none⟩ = some (.int .u32 wv)) (first | go_keep | exact ⟨p0, x5⟩)
    (first
    | (go_at_call 32; (with_reducible refine (ST.out _ G3.out).mono ?_); rintro e w4 ⟨rfl, o4, j4⟩; have B4 := (HB3.out.only ((Only.refl [] _).drew) (by simp)).only o4 (fun hm => Nat.lt_irrefl _ (HS3.out _ hm)); have p0 := R3.out _ j4; have x5 : w4.cell? ⟨w.heap.size, 5, none⟩ = some (.int .u32 wv) := (by simpa using B4.cell 5); have G4 := Lib.hid j4; have HB4 := Lib.hid B4; clear j4 o4 B4))
  go_wp2_with (first
    | (go_at_call 9; (with_reducible refine (GE.out _ G4.out).mono ?_); rintro e w5 ⟨rfl, o5, j5⟩; have B5 := HB4.out.only o5 (fun hm => Nat.lt_irrefl _ (HS4.out _ hm)); have x5 : w5.cell? ⟨w.heap.size, 5, none⟩ = some (.int .u32 wv) := (by simpa using B5.cell 5); have G5 := Lib.hid j5; clear j5 o5 B5)
    | (go_at_call 10; (with_reducible refine (num_any _ _).mono ?_); rintro e w' ⟨rfl, rfl⟩))
  go_ret
  exact ⟨by simp, G5.out⟩
set_option maxHeartbeats 4000000 in
theorem do5_out_false {n q a o : Int} {odd : Bool} {wv f : Nat} {J1 J2 J3 J4 : World → Prop} {S1 S2 S3 : List Nat} (hS : ∀ x ∈ S1, x < w.heap.size) (hS2 : ∀ x ∈ S2, x < w.heap.size) (hS3 : ∀ x ∈ S3, x < w.heap.size) (ha : ¬ a < 0) (ha2 : ¬ 1073741824 < a) {o2 : Int} (hat : IntKind.i64.wrap (o + bits .and .i64 n 31) = o2)
    (OFF : ∀ W, Only [] w W → Calls Tryd.prog 23 #[.pointer (some ⟨p, 0, none⟩), .agg #[.int .i64 5, .int .i64 n, .int .i64 q, .int .i64 a, .bool false, .int .u32 wv]] W fun e w' => e = .returned (.int .i64 o) ∧ Only [] W w')
    (S0 : ∀ W, Only [] w W → W.cell? ⟨p, 0, none⟩ = some (.pointer (some ⟨h, 0, none⟩)) ∧ W.cell? ⟨p, 1, none⟩ = some (.pointer (some ⟨r, 0, none⟩)))
    (IN : ∀ W, Only [] w W → Calls Tryd.prog 33 #[.pointer (some ⟨r, 0, none⟩), .int .i64 o2] W fun e w' => e = .returned (.bool false) ∧ Only S1 W w' ∧ J1 w')
    (R1 : ∀ W, J1 W → W.cell? ⟨p, 0, none⟩ = some (.pointer (some ⟨h, 0, none⟩)))
    (GE : ∀ W, J1 W → Calls Tryd.prog 9 #[.pointer (some ⟨h, 0, none⟩), .int .i64 o2] W fun e w' => e = .returned (.tuple #[.int .u32 0, .int .i64 2]) ∧ Only S2 W w' ∧ J2 w')
    (R2 : ∀ W, J2 W → J2 W.drew ∧ W.cell? ⟨p, 0, none⟩ = some (.pointer (some ⟨h, 0, none⟩)))
    (ST : ∀ W, J2 W → Calls Tryd.prog 32 #[.pointer (some ⟨h, 0, none⟩), .int .i64 o2, .int .u32 wv] W fun e w' => e = .returned (.int .i64 2) ∧ Only S3 W w' ∧ J3 w')
    (R3 : ∀ W, J3 W → W.cell? ⟨p, 0, none⟩ = some (.pointer (some ⟨h, 0, none⟩)))
    : Calls Tryd.prog 8 #[.pointer (some ⟨p, 0, none⟩), .agg #[.int .i64 5, .int .i64 n, .int .i64 q, .int .i64 a, .bool false, .int .u32 wv]] w fun e w' => e = .returned (.bool true) ∧ J3 w' := by
  have OFF := Lib.hid OFF
  have S0 := Lib.hid S0
  have IN := Lib.hid IN
  have R1 := Lib.hid R1
  have GE := Lib.hid GE
  have R2 := Lib.hid R2
  have ST := Lib.hid ST
  have R3 := Lib.hid R3
  have HS := Lib.hid hS
  have HS2 := Lib.hid hS2
  have HS3 := Lib.hid hS3
  clear hS hS2 hS3
  go_enter Tryd.func8, Tryd.ntmps8
  go_wp2_with (first
    | (go_at_call 23; (with_reducible refine (OFF.out _ ((Only.refl [] w).alloc _)).mono ?_); rintro e w1 ⟨rfl, o1⟩; have B1 := (Blk.new w 35 #[.int .i64 5, .int .i64 n, .int .i64 q, .int .i64 a, .bool false, .int .u32 wv]).only o1 (by simp); have O1 := Lib.hid (((Only.refl [] w).alloc (.cells #[.int .i64 5, .int .i64 n, .int .i64 q, .int .i64 a, .bool false, .int .u32 wv] 35)).trans0 o1); obtain ⟨p0, p1⟩ := S0.out w1 O1.out; have x0 : w1.cell? ⟨w.heap.size, 0, none⟩ = some (.int .i64 5) := (by simpa using B1.cell 0); have x1 : w1.cell? ⟨w.heap.size, 1, none⟩ = some (.int .i64 n) := (by simpa using B1.cell 1); have x3 : w1.cell? ⟨w.heap.size, 3, none⟩ = some (.int .i64 a) := (by simpa using B1.cell 3); have x4 : w1.cell? ⟨w.heap.size, 4, none⟩ = some (.bool false) := (by simpa using B1.cell 4); have x5 : w1.cell? ⟨w.heap.size, 5, none⟩ = some (.int .u32 wv) := (by simpa using B1.cell 5); have HB1 := Lib.hid B1; clear o1 B1)
    | (go_at_call 33; (with_reducible refine (IN.out _ O1.out).mono ?_); rintro e w2 ⟨rfl, o2', j2⟩; have B2 := HB1.out.only o2' (fun hm => Nat.lt_irrefl _ (HS.out _ hm)); have p0 := R1.out _ j2; have x5 : w2.cell? ⟨w.heap.size, 5, none⟩ = some (.int .u32 wv) := (by simpa using B2.cell 5); have G2 := Lib.hid j2; have HB2 := Lib.hid B2; clear j2 o2' B2)
    | (go_at_call 9; (with_reducible refine (GE.out _ G2.out).mono ?_); rintro e w3 ⟨rfl, o3, j3⟩; have B3 := HB2.out.only o3 (fun hm => Nat.lt_irrefl _ (HS2.out _ hm)); obtain ⟨d3, p0⟩ := R2.out _ j3; have x5 : w3.cell? ⟨w.heap.size, 5, none⟩ = some (.int .u32 wv) := (by simpa using B3.cell 5); have G3 := Lib.hid d3; have HB3 := Lib.hid B3; clear j3 o3 B3 d3))
  go_region_held3 (fun W => W.cell? ⟨p, 0, none⟩ = some (.pointer (some ⟨h, 0, none⟩)) ∧ W.cell? ⟨w.heap.size, 5, none⟩ = some (.int .u32 wv)) (first | go_keep | exact ⟨p0, x5⟩)
    (first
    | (go_at_call 10; (with_reducible refine (num_any _ _).mono ?_); rintro e w' ⟨rfl, rfl⟩)
    | (go_at_call 32; (with_reducible refine (ST.out _ G3.out).mono ?_); rintro e w4 ⟨rfl, o4, j4⟩; have B4 := (HB3.out.only ((Only.refl [] _).drew) (by simp)).only o4 (fun hm => Nat.lt_irrefl _ (HS3.out _ hm)); have p0 := R3.out _ j4; have x5 : w4.cell? ⟨w.heap.size, 5, none⟩ = some (.int .u32 wv) := (by simpa using B4.cell 5); have G4 := Lib.hid j4; clear j4 o4 B4))
  go_wp2
  go_ret
  exact ⟨by simp, G4.out⟩
set_option maxHeartbeats 4000000 in
theorem do5_in_false {n q a o : Int} {odd : Bool} {wv f : Nat} {J1 J2 J3 J4 : World → Prop} {S1 S2 S3 : List Nat} {S4 : List Nat} (hS : ∀ x ∈ S1, x < w.heap.size) (hS2 : ∀ x ∈ S2, x < w.heap.size) (hS3 : ∀ x ∈ S3, x < w.heap.size) (hS4 : ∀ x ∈ S4, x < w.heap.size) (ha : ¬ a < 0) (ha2 : ¬ 1073741824 < a) {o2 : Int} (hat : IntKind.i64.wrap (o + bits .and .i64 n 31) = o2)
    (OFF : ∀ W, Only [] w W → Calls Tryd.prog 23 #[.pointer (some ⟨p, 0, none⟩), .agg #[.int .i64 5, .int .i64 n, .int .i64 q, .int .i64 a, .bool false, .int .u32 wv]] W fun e w' => e = .returned (.int .i64 o) ∧ Only [] W w')
    (S0 : ∀ W, Only [] w W → W.cell? ⟨p, 0, none⟩ = some (.pointer (some ⟨h, 0, none⟩)) ∧ W.cell? ⟨p, 1, none⟩ = some (.pointer (some ⟨r, 0, none⟩)))
    (IN : ∀ W, Only [] w W → Calls Tryd.prog 33 #[.pointer (some ⟨r, 0, none⟩), .int .i64 o2] W fun e w' => e = .returned (.bool true) ∧ Only S1 W w' ∧ J1 w')
    (R1 : ∀ W, J1 W → J1 W.drew ∧ W.cell? ⟨p, 1, none⟩ = some (.pointer (some ⟨r, 0, none⟩)))
    (DS : ∀ W, J1 W → Calls Tryd.prog 34 #[.pointer (some ⟨r, 0, none⟩), .int .i64 o2, .int .u32 wv] W fun e w' => e = .returned (.tuple #[]) ∧ Only S2 W w' ∧ J2 w')
    (R2 : ∀ W, J2 W → J2 W.drew ∧ W.cell? ⟨p, 0, none⟩ = some (.pointer (some ⟨h, 0, none⟩)) ∧ W.cell? ⟨p, 1, none⟩ = some (.pointer (some ⟨r, 0, none⟩)))
    (ST : ∀ W, J2 W → Calls Tryd.prog 32 #[.pointer (some ⟨h, 0, none⟩), .int .i64 o2, .int .u32 wv] W fun e w' => e = .returned (.int .i64 0) ∧ Only S3 W w' ∧ J3 w')
    (R3 : ∀ W, J3 W → W.cell? ⟨p, 0, none⟩ = some (.pointer (some ⟨h, 0, none⟩)))
    (GE : ∀ W, J3 W → Calls Tryd.prog 9 #[.pointer (some ⟨h, 0, none⟩), .int .i64 o2] W fun e w' => e = .returned (.tuple #[.int .u32 wv, .int .i64 0]) ∧ Only S4 W w' ∧ J4 w')
    : Calls Tryd.prog 8 #[.pointer (some ⟨p, 0, none⟩), .agg #[.int .i64 5, .int .i64 n, .int .i64 q, .int .i64 a, .bool false, .int .u32 wv]] w fun e w' => e = .returned (.bool true) ∧ J4 w' := by
  have OFF := Lib.hid OFF
  have S0 := Lib.hid S0
  have IN := Lib.hid IN
  have R1 := Lib.hid R1
  have DS := Lib.hid DS
  have GE := Lib.hid GE
  have R2 := Lib.hid R2
  have ST := Lib.hid ST
  have R3 := Lib.hid R3
  have HS := Lib.hid hS
  have HS2 := Lib.hid hS2
  have HS3 := Lib.hid hS3
  have HS4 := Lib.hid hS4
  clear hS hS2 hS3 hS4
  go_enter Tryd.func8, Tryd.ntmps8
  go_wp2_with (first
    | (go_at_call 23; (with_reducible refine (OFF.out _ ((Only.refl [] w).alloc _)).mono ?_); rintro e w1 ⟨rfl, o1⟩; have B1 := (Blk.new w 35 #[.int .i64 5, .int .i64 n, .int .i64 q, .int .i64 a, .bool false, .int .u32 wv]).only o1 (by simp); have O1 := Lib.hid (((Only.refl [] w).alloc (.cells #[.int .i64 5, .int .i64 n, .int .i64 q, .int .i64 a, .bool false, .int .u32 wv] 35)).trans0 o1); obtain ⟨p0, p1⟩ := S0.out w1 O1.out; have x0 : w1.cell? ⟨w.heap.size, 0, none⟩ = some (.int .i64 5) := (by simpa using B1.cell 0); have x1 : w1.cell? ⟨w.heap.size, 1, none⟩ = some (.int .i64 n) := (by simpa using B1.cell 1); have x3 : w1.cell? ⟨w.heap.size, 3, none⟩ = some (.int .i64 a) := (by simpa using B1.cell 3); have x4 : w1.cell? ⟨w.heap.size, 4, none⟩ = some (.bool false) := (by simpa using B1.cell 4); have x5 : w1.cell? ⟨w.heap.size, 5, none⟩ = some (.int .u32 wv) := (by simpa using B1.cell 5); have HB1 := Lib.hid B1; clear o1 B1)
    | (go_at_call 33; (with_reducible refine (IN.out _ O1.out).mono ?_); rintro e w2 ⟨rfl, o2', j2⟩; have B2 := HB1.out.only o2' (fun hm => Nat.lt_irrefl _ (HS.out _ hm)); obtain ⟨d2, p1⟩ := R1.out _ j2; have x5 : w2.cell? ⟨w.heap.size, 5, none⟩ = some (.int .u32 wv) := (by simpa using B2.cell 5); have G2 := Lib.hid d2; have HB2 := Lib.hid B2; clear j2 o2' B2 d2))
  go_region_held3 (fun W => W.cell? ⟨p, 1, none⟩ = some (.pointer (some ⟨r, 0, none⟩)) ∧ W.cell? ⟨w.heap.size, 5, none⟩ = some (.int .u32 wv)) (first | go_keep | exact ⟨p1, x5⟩)
    (first
    | (go_at_call 34; (with_reducible refine (DS.out _ G2.out).mono ?_); rintro e w3 ⟨rfl, o3, j3⟩; have B3 := (HB2.out.only ((Only.refl [] _).drew) (by simp)).only o3 (fun hm => Nat.lt_irrefl _ (HS2.out _ hm)); obtain ⟨d3, p0, p1⟩ := R2.out _ j3; have x5 : w3.cell? ⟨w.heap.size, 5, none⟩ = some (.int .u32 wv) := (by simpa using B3.cell 5); have G3 := Lib.hid d3; have HB3 := Lib.hid B3; clear j3 o3 B3 d3))
  go_wp2
  go_region_held3 (fun W => W.cell? ⟨p, 0, none⟩ = some (.pointer (some ⟨h, 0, none⟩)) ∧ W.cell? ⟨w.heap.size, 5, none⟩ = some (.int .u32 wv)) (first | go_keep | exact ⟨p0, x5⟩)
    (first
    | (go_at_call 32; (with_reducible refine (ST.out _ G3.out).mono ?_); rintro e w4 ⟨rfl, o4, j4⟩; have B4 := (HB3.out.only ((Only.refl [] _).drew) (by simp)).only o4 (fun hm => Nat.lt_irrefl _ (HS3.out _ hm)); have p0 := R3.out _ j4; have x5 : w4.cell? ⟨w.heap.size, 5, none⟩ = some (.int .u32 wv) := (by simpa using B4.cell 5); have G4 := Lib.hid j4; have HB4 := Lib.hid B4; clear j4 o4 B4))
  go_wp2_with (first
    | (go_at_call 9; (with_reducible refine (GE.out _ G4.out).mono ?_); rintro e w5 ⟨rfl, o5, j5⟩; have B5 := HB4.out.only o5 (fun hm => Nat.lt_irrefl _ (HS4.out _ hm)); have x5 : w5.cell? ⟨w.heap.size, 5, none⟩ = some (.int .u32 wv) := (by simpa using B5.cell 5); have G5 := Lib.hid j5; clear j5 o5 B5)
    | (go_at_call 10; (with_reducible refine (num_any _ _).mono ?_); rintro e w' ⟨rfl, rfl⟩))
  go_ret
  exact ⟨by simp, G5.out⟩
set_option maxHeartbeats 4000000 in
theorem do6_walk {n q a o : Int} {odd : Bool} {wv f : Nat} {J1 J2 J3 J4 : World → Prop} {S1 S2 S3 : List Nat} {Q1 Q2 Q3 : Nat → World → Prop}
    (OFF : ∀ W, Only [] w W → Calls Tryd.prog 23 #[.pointer (some ⟨p, 0, none⟩), .agg #[.int .i64 6, .int .i64 n, .int .i64 q, .int .i64 a, .bool odd, .int .u32 wv]] W fun e w' => e = .returned (.int .i64 o) ∧ Only [] W w')
    (S0 : ∀ W, Only [] w W → W.cell? ⟨p, 0, none⟩ = some (.pointer (some ⟨h, 0, none⟩)) ∧ W.cell? ⟨p, 1, none⟩ = some (.pointer (some ⟨r, 0, none⟩)))
    (CP : ∀ W, Only [] w W → Calls Tryd.prog 35 #[.pointer (some ⟨h, 0, none⟩)] W fun e w' => ∃ h2 : Nat, e = .returned (.pointer (some ⟨h2, 0, none⟩)) ∧ Q1 h2 w')
    (R1 : ∀ h2 W, Q1 h2 W → W.cell? ⟨p, 0, none⟩ = some (.pointer (some ⟨h, 0, none⟩)))
    (AL : ∀ h2 W, Q1 h2 W → Calls Tryd.prog 15 #[.pointer (some ⟨h, 0, none⟩), .int .i64 1] W fun e w' => (∃ x y, e = .returned (.tuple #[.int .i64 x, .int .i64 y])) ∧ Q2 h2 w')
    (R2 : ∀ h2 W, Q2 h2 W → W.cell? ⟨p, 0, none⟩ = some (.pointer (some ⟨h, 0, none⟩)))
    (FR : ∀ h2 W, Q2 h2 W → Calls Tryd.prog 16 #[.pointer (some ⟨h, 0, none⟩), .int .i64 120] W fun e w' => (∃ x, e = .returned (.int .i64 x)) ∧ Q3 h2 w')
    (R3 : ∀ h2 W, Q3 h2 W → W.cell? ⟨p, 0, none⟩ = some (.pointer (some ⟨h, 0, none⟩)) ∧ W.frozen? ⟨p, 0, none⟩ = false ∧ J4 (W.setCell ⟨p, 0, none⟩ (.pointer (some ⟨h2, 0, none⟩))))
    : Calls Tryd.prog 8 #[.pointer (some ⟨p, 0, none⟩), .agg #[.int .i64 6, .int .i64 n, .int .i64 q, .int .i64 a, .bool odd, .int .u32 wv]] w fun e w' => e = .returned (.bool true) ∧ J4 w' := by
  have OFF := Lib.hid OFF
  have S0 := Lib.hid S0
  have CP := Lib.hid CP
  have R1 := Lib.hid R1
  have AL := Lib.hid AL
  have R2 := Lib.hid R2
  have FR := Lib.hid FR
  have R3 := Lib.hid R3
  go_enter Tryd.func8, Tryd.ntmps8
  go_wp2_with (first
    | (go_at_call 23; (with_reducible refine (OFF.out _ ((Only.refl [] w).alloc _)).mono ?_); rintro e w1 ⟨rfl, o1⟩; have B1 := (Blk.new w 35 #[.int .i64 6, .int .i64 n, .int .i64 q, .int .i64 a, .bool odd, .int .u32 wv]).only o1 (by simp); have O1 := Lib.hid (((Only.refl [] w).alloc (.cells #[.int .i64 6, .int .i64 n, .int .i64 q, .int .i64 a, .bool odd, .int .u32 wv] 35)).trans0 o1); obtain ⟨p0, p1⟩ := S0.out w1 O1.out; have x0 : w1.cell? ⟨w.heap.size, 0, none⟩ = some (.int .i64 6) := (by simpa using B1.cell 0); have HB1 := Lib.hid B1; clear o1 B1)
    | (go_at_call 35; (with_reducible refine (CP.out _ O1.out).mono ?_); rintro e w2 ⟨h2, rfl, j2⟩; have p0 := R1.out _ _ j2; have G2 := Lib.hid j2; clear j2)
    | (go_at_call 15; (with_reducible refine (AL.out _ _ G2.out).mono ?_); rintro e w3 ⟨⟨x, y, rfl⟩, j3⟩; have p0 := R2.out _ _ j3; have G3 := Lib.hid j3; clear j3)
    | (go_at_call 16; (with_reducible refine (FR.out _ _ G3.out).mono ?_); rintro e w4 ⟨⟨x2, rfl⟩, j4⟩; obtain ⟨p0, pf, j5⟩ := R3.out _ _ j4; have G4 := Lib.hid j5; clear j4 j5))
  go_ret
  exact ⟨by simp, G4.out⟩
set_option maxHeartbeats 4000000 in
theorem do_other {n q a o k : Int} {odd : Bool} {wv f : Nat} {J1 J2 J3 J4 : World → Prop} {S1 S2 S3 : List Nat} (hk : k ≠ 1 ∧ k ≠ 2 ∧ k ≠ 3 ∧ k ≠ 4 ∧ k ≠ 5 ∧ k ≠ 6)
    (OFF : ∀ W, Only [] w W → Calls Tryd.prog 23 #[.pointer (some ⟨p, 0, none⟩), .agg #[.int .i64 k, .int .i64 n, .int .i64 q, .int .i64 a, .bool odd, .int .u32 wv]] W fun e w' => e = .returned (.int .i64 o) ∧ Only [] W w')
    (S0 : ∀ W, Only [] w W → W.cell? ⟨p, 0, none⟩ = some (.pointer (some ⟨h, 0, none⟩)) ∧ W.cell? ⟨p, 1, none⟩ = some (.pointer (some ⟨r, 0, none⟩)))
    (E : ∀ W, Only [] w W → J1 W)
    : Calls Tryd.prog 8 #[.pointer (some ⟨p, 0, none⟩), .agg #[.int .i64 k, .int .i64 n, .int .i64 q, .int .i64 a, .bool odd, .int .u32 wv]] w fun e w' => e = .returned (.bool true) ∧ J1 w' := by
  have OFF := Lib.hid OFF
  have S0 := Lib.hid S0
  obtain ⟨k1, k2, k3, k4, k5, k6⟩ := hk
  have e1 : (k == 1) = false := by simp; omega
  have e2 : (k == 2) = false := by simp; omega
  have e3 : (k == 3) = false := by simp; omega
  have e4 : (k == 4) = false := by simp; omega
  have e5 : (k == 5) = false := by simp; omega
  have e6 : (k == 6) = false := by simp; omega
  have E := Lib.hid E
  go_enter Tryd.func8, Tryd.ntmps8
  go_wp2_with (first
    | (go_at_call 23; (with_reducible refine (OFF.out _ ((Only.refl [] w).alloc _)).mono ?_); rintro e w1 ⟨rfl, o1⟩; have B1 := (Blk.new w 35 #[.int .i64 k, .int .i64 n, .int .i64 q, .int .i64 a, .bool odd, .int .u32 wv]).only o1 (by simp); have O1 := Lib.hid (((Only.refl [] w).alloc (.cells #[.int .i64 k, .int .i64 n, .int .i64 q, .int .i64 a, .bool odd, .int .u32 wv] 35)).trans0 o1); obtain ⟨p0, p1⟩ := S0.out w1 O1.out; have x0 : w1.cell? ⟨w.heap.size, 0, none⟩ = some (.int .i64 k) := (by simpa using B1.cell 0); have HB1 := Lib.hid B1; clear o1 B1))
  go_ret
  exact ⟨by simp, E.out _ O1.out⟩
end
end Go.Proofs.YthlaoanfoimkfaaDoor
