/- Tlsf: size, split, free. No condition but what each theorem says. -/
import Derived.Test.YthlaoanfoimkfaaDoorThB
namespace Go.Proofs.YthlaoanfoimkfaaDoor
open Go.RowKit
set_option linter.unusedVariables false
set_option linter.all false
set_option maxRecDepth 100000
section
variable {w w' : World} {h g gb cap mb N : Nat} {m : Nat → Nat} {S : List Nat}
set_option maxHeartbeats 2000000 in
theorem free_ee (H : Me w h g gb cap mb N m) {p z cs ax : Nat} (hp : 112 ≤ p ∧ p < 65536) (hz : z < 65536) (hcs : cs < 65536) (has : ax < 65536 ∧ ax ≤ p) (hN : N ≤ 65536) {J1 J2 J3 : (Nat → Nat) → Prop} (hlt : ¬ (p : Int) + (z : Int) < (N : Int)) (h1 : J1 m) (GetA : ∀ m1 w1, J1 m1 → Me w1 h g gb cap mb N m1 → Calls Tryd.prog 57 #[.pointer (some ⟨h, 0, none⟩), .int .i64 ((p : Int) + 4)] w1 fun e w' => e = .returned (.int .i64 0) ∧ Only [g] w1 w' ∧ Me w' h g gb cap mb N m1) (h12 : ∀ m1, J1 m1 → J2 m1) (Put : ∀ m2 w1, J2 m2 → Me w1 h g gb cap mb N m2 → Calls Tryd.prog 45 #[.pointer (some ⟨h, 0, none⟩), .int .i64 p, .int .i64 (z : Int)] w1 fun e w' => e = .returned (.tuple #[]) ∧ Only [g, gb] w1 w' ∧ ∃ m', Me w' h g gb cap mb N m' ∧ J3 m') :
    Calls Tryd.prog 52 #[.pointer (some ⟨h, 0, none⟩), .int .i64 p, .int .i64 z] w fun e w' => e = .returned (.tuple #[]) ∧ Only [g, gb] w w' ∧ ∃ m', Me w' h g gb cap mb N m' ∧ J3 m' := by
  have k0 : w.cell? ⟨h, 0, none⟩ = some (.pointer (some ⟨g, 0, none⟩)) := by simpa using H.hdr.cell 0
  replace h1 := Lib.hid h1
  replace GetA := Lib.hid GetA
  replace h12 := Lib.hid h12
  replace Put := Lib.hid Put
  have HH := Lib.hid H
  clear H
  go_enter Tryd.func52, Tryd.ntmps52
  go_wp2_with (first
    | (go_at_call 42; (with_reducible refine (len_any HH.out).mono ?_); rintro e w0 ⟨rfl, rfl⟩)
    | (go_at_call 57; (with_reducible refine (GetA.out _ _ h1.out HH.out).mono ?_); rintro e w3 ⟨rfl, o3, H3⟩)
    | (go_at_call 45; (with_reducible refine (Put.out _ _ (h12.out _ h1.out) H3).mono ?_); rintro e w6 ⟨rfl, o6, H6⟩))
  go_end0
  exact ⟨rfl, (((Only.refl [g, gb] _).trans o3 (by simp)).trans o6 (by simp)), H6⟩
set_option maxHeartbeats 2000000 in
theorem free_eu (H : Me w h g gb cap mb N m) {p z cs ax : Nat} (hp : 112 ≤ p ∧ p < 65536) (hz : z < 65536) (hcs : cs < 65536) (has : ax < 65536 ∧ ax ≤ p) (hN : N ≤ 65536) {J1 J2 J3 : (Nat → Nat) → Prop} (hlt : ¬ (p : Int) + (z : Int) < (N : Int)) (h1 : J1 m) (GetA : ∀ m1 w1, J1 m1 → Me w1 h g gb cap mb N m1 → Calls Tryd.prog 57 #[.pointer (some ⟨h, 0, none⟩), .int .i64 ((p : Int) + 4)] w1 fun e w' => e = .returned (.int .i64 (ax : Nat)) ∧ Only [g] w1 w' ∧ Me w' h g gb cap mb N m1) (ha0 : ((ax : Int) == 0) = false) (SzA : ∀ m1 w1, J1 m1 → Me w1 h g gb cap mb N m1 → Calls Tryd.prog 51 #[.pointer (some ⟨h, 0, none⟩), .int .i64 ((p : Int) - (ax : Int))] w1 fun e w' => e = .returned (.tuple #[.int .i64 ax, .bool false]) ∧ Only [g] w1 w' ∧ Me w' h g gb cap mb N m1) (h12 : ∀ m1, J1 m1 → J2 m1) (Put : ∀ m2 w1, J2 m2 → Me w1 h g gb cap mb N m2 → Calls Tryd.prog 45 #[.pointer (some ⟨h, 0, none⟩), .int .i64 p, .int .i64 (z : Int)] w1 fun e w' => e = .returned (.tuple #[]) ∧ Only [g, gb] w1 w' ∧ ∃ m', Me w' h g gb cap mb N m' ∧ J3 m') :
    Calls Tryd.prog 52 #[.pointer (some ⟨h, 0, none⟩), .int .i64 p, .int .i64 z] w fun e w' => e = .returned (.tuple #[]) ∧ Only [g, gb] w w' ∧ ∃ m', Me w' h g gb cap mb N m' ∧ J3 m' := by
  have k0 : w.cell? ⟨h, 0, none⟩ = some (.pointer (some ⟨g, 0, none⟩)) := by simpa using H.hdr.cell 0
  replace h1 := Lib.hid h1
  replace GetA := Lib.hid GetA
  replace SzA := Lib.hid SzA
  replace h12 := Lib.hid h12
  replace Put := Lib.hid Put
  have HH := Lib.hid H
  clear H
  go_enter Tryd.func52, Tryd.ntmps52
  go_wp2_with (first
    | (go_at_call 42; (with_reducible refine (len_any HH.out).mono ?_); rintro e w0 ⟨rfl, rfl⟩)
    | (go_at_call 57; (with_reducible refine (GetA.out _ _ h1.out HH.out).mono ?_); rintro e w3 ⟨rfl, o3, H3⟩)
    | (go_at_call 51; (with_reducible refine (SzA.out _ _ h1.out H3).mono ?_); rintro e w4 ⟨rfl, o4, H4⟩)
    | (go_at_call 45; (with_reducible refine (Put.out _ _ (h12.out _ h1.out) H4).mono ?_); rintro e w6 ⟨rfl, o6, H6⟩))
  go_end0
  exact ⟨rfl, ((((Only.refl [g, gb] _).trans o3 (by simp)).trans o4 (by simp)).trans o6 (by simp)), H6⟩
set_option maxHeartbeats 2000000 in
theorem free_ef (H : Me w h g gb cap mb N m) {p z cs ax : Nat} (hp : 112 ≤ p ∧ p < 65536) (hz : z < 65536) (hcs : cs < 65536) (has : ax < 65536 ∧ ax ≤ p) (hN : N ≤ 65536) {J1 J2 J3 : (Nat → Nat) → Prop} (hlt : ¬ (p : Int) + (z : Int) < (N : Int)) (h1 : J1 m) (GetA : ∀ m1 w1, J1 m1 → Me w1 h g gb cap mb N m1 → Calls Tryd.prog 57 #[.pointer (some ⟨h, 0, none⟩), .int .i64 ((p : Int) + 4)] w1 fun e w' => e = .returned (.int .i64 (ax : Nat)) ∧ Only [g] w1 w' ∧ Me w' h g gb cap mb N m1) (ha0 : ((ax : Int) == 0) = false) (SzA : ∀ m1 w1, J1 m1 → Me w1 h g gb cap mb N m1 → Calls Tryd.prog 51 #[.pointer (some ⟨h, 0, none⟩), .int .i64 ((p : Int) - (ax : Int))] w1 fun e w' => e = .returned (.tuple #[.int .i64 ax, .bool true]) ∧ Only [g] w1 w' ∧ Me w' h g gb cap mb N m1) (OutA : ∀ m1 w1, J1 m1 → Me w1 h g gb cap mb N m1 → Calls Tryd.prog 54 #[.pointer (some ⟨h, 0, none⟩), .int .i64 ((p : Int) - (ax : Int)), .int .i64 ax] w1 fun e w' => e = .returned (.tuple #[]) ∧ Only [g, gb] w1 w' ∧ ∃ m', Me w' h g gb cap mb N m' ∧ J2 m') (Put : ∀ m2 w1, J2 m2 → Me w1 h g gb cap mb N m2 → Calls Tryd.prog 45 #[.pointer (some ⟨h, 0, none⟩), .int .i64 ((p : Int) - (ax : Int)), .int .i64 ((z : Int) + (ax : Int))] w1 fun e w' => e = .returned (.tuple #[]) ∧ Only [g, gb] w1 w' ∧ ∃ m', Me w' h g gb cap mb N m' ∧ J3 m') :
    Calls Tryd.prog 52 #[.pointer (some ⟨h, 0, none⟩), .int .i64 p, .int .i64 z] w fun e w' => e = .returned (.tuple #[]) ∧ Only [g, gb] w w' ∧ ∃ m', Me w' h g gb cap mb N m' ∧ J3 m' := by
  have k0 : w.cell? ⟨h, 0, none⟩ = some (.pointer (some ⟨g, 0, none⟩)) := by simpa using H.hdr.cell 0
  replace h1 := Lib.hid h1
  replace GetA := Lib.hid GetA
  replace SzA := Lib.hid SzA
  replace OutA := Lib.hid OutA
  replace Put := Lib.hid Put
  have HH := Lib.hid H
  clear H
  go_enter Tryd.func52, Tryd.ntmps52
  go_wp2_with (first
    | (go_at_call 42; (with_reducible refine (len_any HH.out).mono ?_); rintro e w0 ⟨rfl, rfl⟩)
    | (go_at_call 57; (with_reducible refine (GetA.out _ _ h1.out HH.out).mono ?_); rintro e w3 ⟨rfl, o3, H3⟩)
    | (go_at_call 51; (with_reducible refine (SzA.out _ _ h1.out H3).mono ?_); rintro e w4 ⟨rfl, o4, H4⟩)
    | (go_at_call 54; (with_reducible refine (OutA.out _ _ h1.out H4).mono ?_); rintro e w5 ⟨rfl, o5, m2, H5, j2⟩)
    | (go_at_call 45; (with_reducible refine (Put.out _ _ j2 H5).mono ?_); rintro e w6 ⟨rfl, o6, H6⟩))
  go_end0
  exact ⟨rfl, (((((Only.refl [g, gb] _).trans o3 (by simp)).trans o4 (by simp)).trans o5 (by simp)).trans o6 (by simp)), H6⟩
set_option maxHeartbeats 2000000 in
theorem free_ue (H : Me w h g gb cap mb N m) {p z cs ax : Nat} (hp : 112 ≤ p ∧ p < 65536) (hz : z < 65536) (hcs : cs < 65536) (has : ax < 65536 ∧ ax ≤ p) (hN : N ≤ 65536) {J1 J2 J3 : (Nat → Nat) → Prop} (hlt : (p : Int) + (z : Int) < (N : Int)) (SzB : ∀ w1, Me w1 h g gb cap mb N m → Calls Tryd.prog 51 #[.pointer (some ⟨h, 0, none⟩), .int .i64 ((p : Int) + (z : Int))] w1 fun e w' => e = .returned (.tuple #[.int .i64 cs, .bool false]) ∧ Only [g] w1 w' ∧ Me w' h g gb cap mb N m) (h1 : J1 m) (GetA : ∀ m1 w1, J1 m1 → Me w1 h g gb cap mb N m1 → Calls Tryd.prog 57 #[.pointer (some ⟨h, 0, none⟩), .int .i64 ((p : Int) + 4)] w1 fun e w' => e = .returned (.int .i64 0) ∧ Only [g] w1 w' ∧ Me w' h g gb cap mb N m1) (h12 : ∀ m1, J1 m1 → J2 m1) (Put : ∀ m2 w1, J2 m2 → Me w1 h g gb cap mb N m2 → Calls Tryd.prog 45 #[.pointer (some ⟨h, 0, none⟩), .int .i64 p, .int .i64 (z : Int)] w1 fun e w' => e = .returned (.tuple #[]) ∧ Only [g, gb] w1 w' ∧ ∃ m', Me w' h g gb cap mb N m' ∧ J3 m') :
    Calls Tryd.prog 52 #[.pointer (some ⟨h, 0, none⟩), .int .i64 p, .int .i64 z] w fun e w' => e = .returned (.tuple #[]) ∧ Only [g, gb] w w' ∧ ∃ m', Me w' h g gb cap mb N m' ∧ J3 m' := by
  have k0 : w.cell? ⟨h, 0, none⟩ = some (.pointer (some ⟨g, 0, none⟩)) := by simpa using H.hdr.cell 0
  replace SzB := Lib.hid SzB
  replace h1 := Lib.hid h1
  replace GetA := Lib.hid GetA
  replace h12 := Lib.hid h12
  replace Put := Lib.hid Put
  have HH := Lib.hid H
  clear H
  go_enter Tryd.func52, Tryd.ntmps52
  go_wp2_with (first
    | (go_at_call 42; (with_reducible refine (len_any HH.out).mono ?_); rintro e w0 ⟨rfl, rfl⟩)
    | (go_at_call 51; (with_reducible refine (SzB.out _ HH.out).mono ?_); rintro e w1 ⟨rfl, o1, H1⟩)
    | (go_at_call 57; (with_reducible refine (GetA.out _ _ h1.out H1).mono ?_); rintro e w3 ⟨rfl, o3, H3⟩)
    | (go_at_call 45; (with_reducible refine (Put.out _ _ (h12.out _ h1.out) H3).mono ?_); rintro e w6 ⟨rfl, o6, H6⟩))
  go_end0
  exact ⟨rfl, (((o1.mono (by simp) : Only [g, gb] _ _).trans o3 (by simp)).trans o6 (by simp)), H6⟩
set_option maxHeartbeats 2000000 in
theorem free_uu (H : Me w h g gb cap mb N m) {p z cs ax : Nat} (hp : 112 ≤ p ∧ p < 65536) (hz : z < 65536) (hcs : cs < 65536) (has : ax < 65536 ∧ ax ≤ p) (hN : N ≤ 65536) {J1 J2 J3 : (Nat → Nat) → Prop} (hlt : (p : Int) + (z : Int) < (N : Int)) (SzB : ∀ w1, Me w1 h g gb cap mb N m → Calls Tryd.prog 51 #[.pointer (some ⟨h, 0, none⟩), .int .i64 ((p : Int) + (z : Int))] w1 fun e w' => e = .returned (.tuple #[.int .i64 cs, .bool false]) ∧ Only [g] w1 w' ∧ Me w' h g gb cap mb N m) (h1 : J1 m) (GetA : ∀ m1 w1, J1 m1 → Me w1 h g gb cap mb N m1 → Calls Tryd.prog 57 #[.pointer (some ⟨h, 0, none⟩), .int .i64 ((p : Int) + 4)] w1 fun e w' => e = .returned (.int .i64 (ax : Nat)) ∧ Only [g] w1 w' ∧ Me w' h g gb cap mb N m1) (ha0 : ((ax : Int) == 0) = false) (SzA : ∀ m1 w1, J1 m1 → Me w1 h g gb cap mb N m1 → Calls Tryd.prog 51 #[.pointer (some ⟨h, 0, none⟩), .int .i64 ((p : Int) - (ax : Int))] w1 fun e w' => e = .returned (.tuple #[.int .i64 ax, .bool false]) ∧ Only [g] w1 w' ∧ Me w' h g gb cap mb N m1) (h12 : ∀ m1, J1 m1 → J2 m1) (Put : ∀ m2 w1, J2 m2 → Me w1 h g gb cap mb N m2 → Calls Tryd.prog 45 #[.pointer (some ⟨h, 0, none⟩), .int .i64 p, .int .i64 (z : Int)] w1 fun e w' => e = .returned (.tuple #[]) ∧ Only [g, gb] w1 w' ∧ ∃ m', Me w' h g gb cap mb N m' ∧ J3 m') :
    Calls Tryd.prog 52 #[.pointer (some ⟨h, 0, none⟩), .int .i64 p, .int .i64 z] w fun e w' => e = .returned (.tuple #[]) ∧ Only [g, gb] w w' ∧ ∃ m', Me w' h g gb cap mb N m' ∧ J3 m' := by
  have k0 : w.cell? ⟨h, 0, none⟩ = some (.pointer (some ⟨g, 0, none⟩)) := by simpa using H.hdr.cell 0
  replace SzB := Lib.hid SzB
  replace h1 := Lib.hid h1
  replace GetA := Lib.hid GetA
  replace SzA := Lib.hid SzA
  replace h12 := Lib.hid h12
  replace Put := Lib.hid Put
  have HH := Lib.hid H
  clear H
  go_enter Tryd.func52, Tryd.ntmps52
  go_wp2_with (first
    | (go_at_call 42; (with_reducible refine (len_any HH.out).mono ?_); rintro e w0 ⟨rfl, rfl⟩)
    | (go_at_call 51; (with_reducible refine (SzB.out _ HH.out).mono ?_); rintro e w1 ⟨rfl, o1, H1⟩)
    | (go_at_call 57; (with_reducible refine (GetA.out _ _ h1.out H1).mono ?_); rintro e w3 ⟨rfl, o3, H3⟩)
    | (go_at_call 51; (with_reducible refine (SzA.out _ _ h1.out H3).mono ?_); rintro e w4 ⟨rfl, o4, H4⟩)
    | (go_at_call 45; (with_reducible refine (Put.out _ _ (h12.out _ h1.out) H4).mono ?_); rintro e w6 ⟨rfl, o6, H6⟩))
  go_end0
  exact ⟨rfl, ((((o1.mono (by simp) : Only [g, gb] _ _).trans o3 (by simp)).trans o4 (by simp)).trans o6 (by simp)), H6⟩
set_option maxHeartbeats 2000000 in
theorem free_uf (H : Me w h g gb cap mb N m) {p z cs ax : Nat} (hp : 112 ≤ p ∧ p < 65536) (hz : z < 65536) (hcs : cs < 65536) (has : ax < 65536 ∧ ax ≤ p) (hN : N ≤ 65536) {J1 J2 J3 : (Nat → Nat) → Prop} (hlt : (p : Int) + (z : Int) < (N : Int)) (SzB : ∀ w1, Me w1 h g gb cap mb N m → Calls Tryd.prog 51 #[.pointer (some ⟨h, 0, none⟩), .int .i64 ((p : Int) + (z : Int))] w1 fun e w' => e = .returned (.tuple #[.int .i64 cs, .bool false]) ∧ Only [g] w1 w' ∧ Me w' h g gb cap mb N m) (h1 : J1 m) (GetA : ∀ m1 w1, J1 m1 → Me w1 h g gb cap mb N m1 → Calls Tryd.prog 57 #[.pointer (some ⟨h, 0, none⟩), .int .i64 ((p : Int) + 4)] w1 fun e w' => e = .returned (.int .i64 (ax : Nat)) ∧ Only [g] w1 w' ∧ Me w' h g gb cap mb N m1) (ha0 : ((ax : Int) == 0) = false) (SzA : ∀ m1 w1, J1 m1 → Me w1 h g gb cap mb N m1 → Calls Tryd.prog 51 #[.pointer (some ⟨h, 0, none⟩), .int .i64 ((p : Int) - (ax : Int))] w1 fun e w' => e = .returned (.tuple #[.int .i64 ax, .bool true]) ∧ Only [g] w1 w' ∧ Me w' h g gb cap mb N m1) (OutA : ∀ m1 w1, J1 m1 → Me w1 h g gb cap mb N m1 → Calls Tryd.prog 54 #[.pointer (some ⟨h, 0, none⟩), .int .i64 ((p : Int) - (ax : Int)), .int .i64 ax] w1 fun e w' => e = .returned (.tuple #[]) ∧ Only [g, gb] w1 w' ∧ ∃ m', Me w' h g gb cap mb N m' ∧ J2 m') (Put : ∀ m2 w1, J2 m2 → Me w1 h g gb cap mb N m2 → Calls Tryd.prog 45 #[.pointer (some ⟨h, 0, none⟩), .int .i64 ((p : Int) - (ax : Int)), .int .i64 ((z : Int) + (ax : Int))] w1 fun e w' => e = .returned (.tuple #[]) ∧ Only [g, gb] w1 w' ∧ ∃ m', Me w' h g gb cap mb N m' ∧ J3 m') :
    Calls Tryd.prog 52 #[.pointer (some ⟨h, 0, none⟩), .int .i64 p, .int .i64 z] w fun e w' => e = .returned (.tuple #[]) ∧ Only [g, gb] w w' ∧ ∃ m', Me w' h g gb cap mb N m' ∧ J3 m' := by
  have k0 : w.cell? ⟨h, 0, none⟩ = some (.pointer (some ⟨g, 0, none⟩)) := by simpa using H.hdr.cell 0
  replace SzB := Lib.hid SzB
  replace h1 := Lib.hid h1
  replace GetA := Lib.hid GetA
  replace SzA := Lib.hid SzA
  replace OutA := Lib.hid OutA
  replace Put := Lib.hid Put
  have HH := Lib.hid H
  clear H
  go_enter Tryd.func52, Tryd.ntmps52
  go_wp2_with (first
    | (go_at_call 42; (with_reducible refine (len_any HH.out).mono ?_); rintro e w0 ⟨rfl, rfl⟩)
    | (go_at_call 51; (with_reducible refine (SzB.out _ HH.out).mono ?_); rintro e w1 ⟨rfl, o1, H1⟩)
    | (go_at_call 57; (with_reducible refine (GetA.out _ _ h1.out H1).mono ?_); rintro e w3 ⟨rfl, o3, H3⟩)
    | (go_at_call 51; (with_reducible refine (SzA.out _ _ h1.out H3).mono ?_); rintro e w4 ⟨rfl, o4, H4⟩)
    | (go_at_call 54; (with_reducible refine (OutA.out _ _ h1.out H4).mono ?_); rintro e w5 ⟨rfl, o5, m2, H5, j2⟩)
    | (go_at_call 45; (with_reducible refine (Put.out _ _ j2 H5).mono ?_); rintro e w6 ⟨rfl, o6, H6⟩))
  go_end0
  exact ⟨rfl, (((((o1.mono (by simp) : Only [g, gb] _ _).trans o3 (by simp)).trans o4 (by simp)).trans o5 (by simp)).trans o6 (by simp)), H6⟩
set_option maxHeartbeats 2000000 in
theorem free_fe (H : Me w h g gb cap mb N m) {p z cs ax : Nat} (hp : 112 ≤ p ∧ p < 65536) (hz : z < 65536) (hcs : cs < 65536) (has : ax < 65536 ∧ ax ≤ p) (hN : N ≤ 65536) {J1 J2 J3 : (Nat → Nat) → Prop} (hlt : (p : Int) + (z : Int) < (N : Int)) (SzB : ∀ w1, Me w1 h g gb cap mb N m → Calls Tryd.prog 51 #[.pointer (some ⟨h, 0, none⟩), .int .i64 ((p : Int) + (z : Int))] w1 fun e w' => e = .returned (.tuple #[.int .i64 cs, .bool true]) ∧ Only [g] w1 w' ∧ Me w' h g gb cap mb N m) (OutB : ∀ w1, Me w1 h g gb cap mb N m → Calls Tryd.prog 54 #[.pointer (some ⟨h, 0, none⟩), .int .i64 ((p : Int) + (z : Int)), .int .i64 cs] w1 fun e w' => e = .returned (.tuple #[]) ∧ Only [g, gb] w1 w' ∧ ∃ m', Me w' h g gb cap mb N m' ∧ J1 m') (GetA : ∀ m1 w1, J1 m1 → Me w1 h g gb cap mb N m1 → Calls Tryd.prog 57 #[.pointer (some ⟨h, 0, none⟩), .int .i64 ((p : Int) + 4)] w1 fun e w' => e = .returned (.int .i64 0) ∧ Only [g] w1 w' ∧ Me w' h g gb cap mb N m1) (h12 : ∀ m1, J1 m1 → J2 m1) (Put : ∀ m2 w1, J2 m2 → Me w1 h g gb cap mb N m2 → Calls Tryd.prog 45 #[.pointer (some ⟨h, 0, none⟩), .int .i64 p, .int .i64 ((z : Int) + (cs : Int))] w1 fun e w' => e = .returned (.tuple #[]) ∧ Only [g, gb] w1 w' ∧ ∃ m', Me w' h g gb cap mb N m' ∧ J3 m') :
    Calls Tryd.prog 52 #[.pointer (some ⟨h, 0, none⟩), .int .i64 p, .int .i64 z] w fun e w' => e = .returned (.tuple #[]) ∧ Only [g, gb] w w' ∧ ∃ m', Me w' h g gb cap mb N m' ∧ J3 m' := by
  have k0 : w.cell? ⟨h, 0, none⟩ = some (.pointer (some ⟨g, 0, none⟩)) := by simpa using H.hdr.cell 0
  replace SzB := Lib.hid SzB
  replace OutB := Lib.hid OutB
  replace GetA := Lib.hid GetA
  replace h12 := Lib.hid h12
  replace Put := Lib.hid Put
  have HH := Lib.hid H
  clear H
  go_enter Tryd.func52, Tryd.ntmps52
  go_wp2_with (first
    | (go_at_call 42; (with_reducible refine (len_any HH.out).mono ?_); rintro e w0 ⟨rfl, rfl⟩)
    | (go_at_call 51; (with_reducible refine (SzB.out _ HH.out).mono ?_); rintro e w1 ⟨rfl, o1, H1⟩)
    | (go_at_call 54; (with_reducible refine (OutB.out _ H1).mono ?_); rintro e w2 ⟨rfl, o2, m1, H2, j1⟩)
    | (go_at_call 57; (with_reducible refine (GetA.out _ _ j1 H2).mono ?_); rintro e w3 ⟨rfl, o3, H3⟩)
    | (go_at_call 45; (with_reducible refine (Put.out _ _ (h12.out _ j1) H3).mono ?_); rintro e w6 ⟨rfl, o6, H6⟩))
  go_end0
  exact ⟨rfl, ((((o1.mono (by simp) : Only [g, gb] _ _).trans o2 (by simp)).trans o3 (by simp)).trans o6 (by simp)), H6⟩
set_option maxHeartbeats 2000000 in
theorem free_fu (H : Me w h g gb cap mb N m) {p z cs ax : Nat} (hp : 112 ≤ p ∧ p < 65536) (hz : z < 65536) (hcs : cs < 65536) (has : ax < 65536 ∧ ax ≤ p) (hN : N ≤ 65536) {J1 J2 J3 : (Nat → Nat) → Prop} (hlt : (p : Int) + (z : Int) < (N : Int)) (SzB : ∀ w1, Me w1 h g gb cap mb N m → Calls Tryd.prog 51 #[.pointer (some ⟨h, 0, none⟩), .int .i64 ((p : Int) + (z : Int))] w1 fun e w' => e = .returned (.tuple #[.int .i64 cs, .bool true]) ∧ Only [g] w1 w' ∧ Me w' h g gb cap mb N m) (OutB : ∀ w1, Me w1 h g gb cap mb N m → Calls Tryd.prog 54 #[.pointer (some ⟨h, 0, none⟩), .int .i64 ((p : Int) + (z : Int)), .int .i64 cs] w1 fun e w' => e = .returned (.tuple #[]) ∧ Only [g, gb] w1 w' ∧ ∃ m', Me w' h g gb cap mb N m' ∧ J1 m') (GetA : ∀ m1 w1, J1 m1 → Me w1 h g gb cap mb N m1 → Calls Tryd.prog 57 #[.pointer (some ⟨h, 0, none⟩), .int .i64 ((p : Int) + 4)] w1 fun e w' => e = .returned (.int .i64 (ax : Nat)) ∧ Only [g] w1 w' ∧ Me w' h g gb cap mb N m1) (ha0 : ((ax : Int) == 0) = false) (SzA : ∀ m1 w1, J1 m1 → Me w1 h g gb cap mb N m1 → Calls Tryd.prog 51 #[.pointer (some ⟨h, 0, none⟩), .int .i64 ((p : Int) - (ax : Int))] w1 fun e w' => e = .returned (.tuple #[.int .i64 ax, .bool false]) ∧ Only [g] w1 w' ∧ Me w' h g gb cap mb N m1) (h12 : ∀ m1, J1 m1 → J2 m1) (Put : ∀ m2 w1, J2 m2 → Me w1 h g gb cap mb N m2 → Calls Tryd.prog 45 #[.pointer (some ⟨h, 0, none⟩), .int .i64 p, .int .i64 ((z : Int) + (cs : Int))] w1 fun e w' => e = .returned (.tuple #[]) ∧ Only [g, gb] w1 w' ∧ ∃ m', Me w' h g gb cap mb N m' ∧ J3 m') :
    Calls Tryd.prog 52 #[.pointer (some ⟨h, 0, none⟩), .int .i64 p, .int .i64 z] w fun e w' => e = .returned (.tuple #[]) ∧ Only [g, gb] w w' ∧ ∃ m', Me w' h g gb cap mb N m' ∧ J3 m' := by
  have k0 : w.cell? ⟨h, 0, none⟩ = some (.pointer (some ⟨g, 0, none⟩)) := by simpa using H.hdr.cell 0
  replace SzB := Lib.hid SzB
  replace OutB := Lib.hid OutB
  replace GetA := Lib.hid GetA
  replace SzA := Lib.hid SzA
  replace h12 := Lib.hid h12
  replace Put := Lib.hid Put
  have HH := Lib.hid H
  clear H
  go_enter Tryd.func52, Tryd.ntmps52
  go_wp2_with (first
    | (go_at_call 42; (with_reducible refine (len_any HH.out).mono ?_); rintro e w0 ⟨rfl, rfl⟩)
    | (go_at_call 51; (with_reducible refine (SzB.out _ HH.out).mono ?_); rintro e w1 ⟨rfl, o1, H1⟩)
    | (go_at_call 54; (with_reducible refine (OutB.out _ H1).mono ?_); rintro e w2 ⟨rfl, o2, m1, H2, j1⟩)
    | (go_at_call 57; (with_reducible refine (GetA.out _ _ j1 H2).mono ?_); rintro e w3 ⟨rfl, o3, H3⟩)
    | (go_at_call 51; (with_reducible refine (SzA.out _ _ j1 H3).mono ?_); rintro e w4 ⟨rfl, o4, H4⟩)
    | (go_at_call 45; (with_reducible refine (Put.out _ _ (h12.out _ j1) H4).mono ?_); rintro e w6 ⟨rfl, o6, H6⟩))
  go_end0
  exact ⟨rfl, (((((o1.mono (by simp) : Only [g, gb] _ _).trans o2 (by simp)).trans o3 (by simp)).trans o4 (by simp)).trans o6 (by simp)), H6⟩
set_option maxHeartbeats 2000000 in
theorem free_ff (H : Me w h g gb cap mb N m) {p z cs ax : Nat} (hp : 112 ≤ p ∧ p < 65536) (hz : z < 65536) (hcs : cs < 65536) (has : ax < 65536 ∧ ax ≤ p) (hN : N ≤ 65536) {J1 J2 J3 : (Nat → Nat) → Prop} (hlt : (p : Int) + (z : Int) < (N : Int)) (SzB : ∀ w1, Me w1 h g gb cap mb N m → Calls Tryd.prog 51 #[.pointer (some ⟨h, 0, none⟩), .int .i64 ((p : Int) + (z : Int))] w1 fun e w' => e = .returned (.tuple #[.int .i64 cs, .bool true]) ∧ Only [g] w1 w' ∧ Me w' h g gb cap mb N m) (OutB : ∀ w1, Me w1 h g gb cap mb N m → Calls Tryd.prog 54 #[.pointer (some ⟨h, 0, none⟩), .int .i64 ((p : Int) + (z : Int)), .int .i64 cs] w1 fun e w' => e = .returned (.tuple #[]) ∧ Only [g, gb] w1 w' ∧ ∃ m', Me w' h g gb cap mb N m' ∧ J1 m') (GetA : ∀ m1 w1, J1 m1 → Me w1 h g gb cap mb N m1 → Calls Tryd.prog 57 #[.pointer (some ⟨h, 0, none⟩), .int .i64 ((p : Int) + 4)] w1 fun e w' => e = .returned (.int .i64 (ax : Nat)) ∧ Only [g] w1 w' ∧ Me w' h g gb cap mb N m1) (ha0 : ((ax : Int) == 0) = false) (SzA : ∀ m1 w1, J1 m1 → Me w1 h g gb cap mb N m1 → Calls Tryd.prog 51 #[.pointer (some ⟨h, 0, none⟩), .int .i64 ((p : Int) - (ax : Int))] w1 fun e w' => e = .returned (.tuple #[.int .i64 ax, .bool true]) ∧ Only [g] w1 w' ∧ Me w' h g gb cap mb N m1) (OutA : ∀ m1 w1, J1 m1 → Me w1 h g gb cap mb N m1 → Calls Tryd.prog 54 #[.pointer (some ⟨h, 0, none⟩), .int .i64 ((p : Int) - (ax : Int)), .int .i64 ax] w1 fun e w' => e = .returned (.tuple #[]) ∧ Only [g, gb] w1 w' ∧ ∃ m', Me w' h g gb cap mb N m' ∧ J2 m') (Put : ∀ m2 w1, J2 m2 → Me w1 h g gb cap mb N m2 → Calls Tryd.prog 45 #[.pointer (some ⟨h, 0, none⟩), .int .i64 ((p : Int) - (ax : Int)), .int .i64 (((z : Int) + (cs : Int)) + (ax : Int))] w1 fun e w' => e = .returned (.tuple #[]) ∧ Only [g, gb] w1 w' ∧ ∃ m', Me w' h g gb cap mb N m' ∧ J3 m') :
    Calls Tryd.prog 52 #[.pointer (some ⟨h, 0, none⟩), .int .i64 p, .int .i64 z] w fun e w' => e = .returned (.tuple #[]) ∧ Only [g, gb] w w' ∧ ∃ m', Me w' h g gb cap mb N m' ∧ J3 m' := by
  have k0 : w.cell? ⟨h, 0, none⟩ = some (.pointer (some ⟨g, 0, none⟩)) := by simpa using H.hdr.cell 0
  replace SzB := Lib.hid SzB
  replace OutB := Lib.hid OutB
  replace GetA := Lib.hid GetA
  replace SzA := Lib.hid SzA
  replace OutA := Lib.hid OutA
  replace Put := Lib.hid Put
  have HH := Lib.hid H
  clear H
  go_enter Tryd.func52, Tryd.ntmps52
  go_wp2_with (first
    | (go_at_call 42; (with_reducible refine (len_any HH.out).mono ?_); rintro e w0 ⟨rfl, rfl⟩)
    | (go_at_call 51; (with_reducible refine (SzB.out _ HH.out).mono ?_); rintro e w1 ⟨rfl, o1, H1⟩)
    | (go_at_call 54; (with_reducible refine (OutB.out _ H1).mono ?_); rintro e w2 ⟨rfl, o2, m1, H2, j1⟩)
    | (go_at_call 57; (with_reducible refine (GetA.out _ _ j1 H2).mono ?_); rintro e w3 ⟨rfl, o3, H3⟩)
    | (go_at_call 51; (with_reducible refine (SzA.out _ _ j1 H3).mono ?_); rintro e w4 ⟨rfl, o4, H4⟩)
    | (go_at_call 54; (with_reducible refine (OutA.out _ _ j1 H4).mono ?_); rintro e w5 ⟨rfl, o5, m2, H5, j2⟩)
    | (go_at_call 45; (with_reducible refine (Put.out _ _ j2 H5).mono ?_); rintro e w6 ⟨rfl, o6, H6⟩))
  go_end0
  exact ⟨rfl, ((((((o1.mono (by simp) : Only [g, gb] _ _).trans o2 (by simp)).trans o3 (by simp)).trans o4 (by simp)).trans o5 (by simp)).trans o6 (by simp)), H6⟩
end
end Go.Proofs.YthlaoanfoimkfaaDoor
namespace Go.Proofs.YthlaoanfoimkfaaDoor
open Go.RowKit
set_option linter.unusedVariables false
set_option linter.all false
set_option maxRecDepth 100000
theorem nil_or_end {α : Type} (A : List α) : A = [] ∨ ∃ A' a, A = A' ++ [a] := by
  rcases List.eq_nil_or_concat A with h | ⟨A', a, h⟩
  · exact .inl h
  · exact .inr ⟨A', a, by rw [h, List.concat_eq_append]⟩
theorem Off.sub {B B' : List Bk} {x : Nat} (h : Off B x) (hs : ∀ y ∈ B', ∃ z ∈ B, z.at' = y.at' ∧ (y.k = 1 → z.k = 1)) : Off B' x := by
  refine ⟨h.1, fun y hy => ?_⟩
  obtain ⟨z, hz, e, hk⟩ := hs y hy
  have := h.2 z hz
  rw [e] at this
  exact ⟨this.1, this.2.1, fun h1 => this.2.2 (hk h1)⟩
/-- Words that say the blocks and lists, and are as they were elsewhere. -/
structure St (N : Nat) (m : Nat → Nat) (B : List Bk) (lo hi : Nat) (B' : List Bk) (L' : Nat → List Nat) (m' : Nat → Nat) : Prop where
  inv : Inv N m' B' L'
  fr : ∀ x, Off B x → (x < lo ∨ hi ≤ x) → m' x = m x
section
variable {w w' : World} {h g gb cap mb N : Nat} {m : Nat → Nat} {S : List Nat} {B A C : List Bk} {b : Bk} {L : Nat → List Nat}
/-- The block behind is taken in. -/
theorem stage_back (H : Me w h g gb cap mb N m) {c : Bk} {r : List Bk} (hI : Inv N m (A ++ b :: c :: r) L) (hk : b.k = 2) (hc : c.k = 1) :
    Calls Tryd.prog 54 #[.pointer (some ⟨h, 0, none⟩), .int .i64 ((b.at' : Int) + (b.size : Int)), .int .i64 c.size] w fun e w' => e = .returned (.tuple #[]) ∧ Only [g, gb] w w' ∧ ∃ m', Me w' h g gb cap mb N m' ∧
      St N m (A ++ b :: c :: r) 0 0 (A ++ ⟨b.at', b.size + c.size, 2⟩ :: r) (rmL L (cls c.size) c.at') m' := by
  have hB : A ++ b :: c :: r = (A ++ [b]) ++ c :: r := by simp
  have hpos := hI.tile.pos
  have hat : c.at' = b.at' + b.size := hpos.2.2.2.2.2.2.1.1
  have hI2 := hI
  rw [hB] at hI2
  have := out_any H hI2 hc
  rw [hat] at this
  push_cast at this
  refine this.mono ?_
  rintro e w1 ⟨rfl, o1, m', H1, i1, f1⟩
  refine ⟨rfl, o1, m', H1, ?_, fun x hx _ => f1 x (by rw [← hB]; exact hx)⟩
  rw [hat]
  have i2 : Inv N m' (A ++ b :: ⟨b.at' + b.size, c.size, 2⟩ :: r) (rmL L (cls c.size) (b.at' + b.size)) := by simpa using i1
  exact merge_inv (c := ⟨b.at' + b.size, c.size, 2⟩) i2 hk rfl
theorem ahead_is (hI : Inv N m (A ++ [b] ++ B) L) (hk : b.k ≠ 2) (hB : B ≠ []) : m (b.at' + b.size + 4) = b.size := by
  have hI2 : Inv N m (A ++ b :: B) L := by simpa using hI
  have hpos := hI2.tile.pos
  refine hI2.behind b (by simp) hk ?_
  cases B with
  | nil => exact absurd rfl hB
  | cons c r =>
    have t := hpos.2.2.2.2.2.2.1
    have := Tile.le t.2.2.2
    have := t.2.1
    omega
theorem ahead_at {p z k : Nat} (ht : Tile 112 (A ++ [b] ++ ⟨p, z, k⟩ :: C) N) : p = b.at' + b.size := by
  have ht2 : Tile 112 (A ++ b :: ⟨p, z, k⟩ :: C) N := by simpa using ht
  exact ht2.pos.2.2.2.2.2.2.1.1
/-- The block ahead is taken in. -/
theorem stage_front (H : Me w h g gb cap mb N m) {p z : Nat} (hI : Inv N m (A ++ [b] ++ ⟨p, z, 2⟩ :: C) L) (hk : b.k = 1) :
    Calls Tryd.prog 54 #[.pointer (some ⟨h, 0, none⟩), .int .i64 ((p : Int) - (b.size : Int)), .int .i64 b.size] w fun e w' => e = .returned (.tuple #[]) ∧ Only [g, gb] w w' ∧ ∃ m', Me w' h g gb cap mb N m' ∧
      St N m (A ++ [b] ++ ⟨p, z, 2⟩ :: C) 0 0 (A ++ ⟨b.at', b.size + z, 2⟩ :: C) (rmL L (cls b.size) b.at') m' := by
  have hat := ahead_at hI.tile
  have hB : A ++ [b] ++ ⟨p, z, 2⟩ :: C = A ++ b :: ⟨p, z, 2⟩ :: C := by simp
  rw [hB] at hI ⊢
  have := out_any H hI hk
  rw [show (p : Int) - (b.size : Int) = (b.at' : Nat) by omega]
  refine this.mono ?_
  rintro e w1 ⟨rfl, o1, m', H1, i1, f1⟩
  exact ⟨rfl, o1, m', H1, merge_inv i1 rfl rfl, fun x hx _ => f1 x hx⟩
theorem stage_put (H : Me w h g gb cap mb N m) {p z : Nat} (hI : Inv N m (A ++ ⟨p, z, 2⟩ :: C) L) :
    Calls Tryd.prog 45 #[.pointer (some ⟨h, 0, none⟩), .int .i64 p, .int .i64 z] w fun e w' => e = .returned (.tuple #[]) ∧ Only [g, gb] w w' ∧ ∃ m', Me w' h g gb cap mb N m' ∧
      Inv N m' (putS A p z C L).1 (putS A p z C L).2 ∧ (∀ x, Off (A ++ ⟨p, z, 2⟩ :: C) x → x ≠ p + 8 → x ≠ p + 12 → m' x = m x) := put_any H hI rfl
theorem fin_put {B0 A2 C1 : List Bk} {p2 z2 lo hi : Nat} {L2 : Nat → List Nat} {m2 : Nat → Nat} (hJ : St N m B0 0 0 (A2 ++ ⟨p2, z2, 2⟩ :: C1) L2 m2) (hsub : ∀ x, Off B0 x → Off (A2 ++ ⟨p2, z2, 2⟩ :: C1) x)
    (hx : ∀ x, Off B0 x → (x < lo ∨ hi ≤ x) → x ≠ p2 + 8 ∧ x ≠ p2 + 12) (H : Me w h g gb cap mb N m2) :
    Calls Tryd.prog 45 #[.pointer (some ⟨h, 0, none⟩), .int .i64 p2, .int .i64 z2] w fun e w' => e = .returned (.tuple #[]) ∧ Only [g, gb] w w' ∧ ∃ m', Me w' h g gb cap mb N m' ∧ St N m B0 lo hi (putS A2 p2 z2 C1 L2).1 (putS A2 p2 z2 C1 L2).2 m' := by
  refine (stage_put H hJ.inv).mono ?_
  rintro e w1 ⟨rfl, o1, m', H1, i1, f1⟩
  exact ⟨rfl, o1, m', H1, i1, fun x ho hl => (f1 x (hsub x ho) (hx x ho hl).1 (hx x ho hl).2).trans (hJ.fr x ho (.inr (Nat.zero_le x)))⟩
theorem fin_front {B0 A2 C1 : List Bk} {p z : Nat} {a : Bk} {L1 : Nat → List Nat} {m1 : Nat → Nat} (hJ : St N m B0 0 0 (A2 ++ [a] ++ ⟨p, z, 2⟩ :: C1) L1 m1) (hk : a.k = 1) (hsub : ∀ x, Off B0 x → Off (A2 ++ [a] ++ ⟨p, z, 2⟩ :: C1) x) (H : Me w h g gb cap mb N m1) :
    Calls Tryd.prog 54 #[.pointer (some ⟨h, 0, none⟩), .int .i64 ((p : Int) - (a.size : Int)), .int .i64 a.size] w fun e w' => e = .returned (.tuple #[]) ∧ Only [g, gb] w w' ∧ ∃ m', Me w' h g gb cap mb N m' ∧ St N m B0 0 0 (A2 ++ ⟨a.at', a.size + z, 2⟩ :: C1) (rmL L1 (cls a.size) a.at') m' := by
  refine (stage_front H hJ.inv hk).mono ?_
  rintro e w1 ⟨rfl, o1, m', H1, s1⟩
  exact ⟨rfl, o1, m', H1, s1.inv, fun x ho hl => (s1.fr x (hsub x ho) hl).trans (hJ.fr x ho hl)⟩
theorem sizeA {B0 A2 C1 : List Bk} {p z k : Nat} {a : Bk} {L1 : Nat → List Nat} {m1 : Nat → Nat} (hJ : St N m B0 0 0 (A2 ++ [a] ++ ⟨p, z, 2⟩ :: C1) L1 m1) (hk : a.k = k) (hk2 : k < 2) (H : Me w h g gb cap mb N m1) :
    Calls Tryd.prog 51 #[.pointer (some ⟨h, 0, none⟩), .int .i64 ((p : Int) - (a.size : Int))] w fun e w' => e = .returned (.tuple #[.int .i64 a.size, .bool (k == 1)]) ∧ Only [g] w w' ∧ Me w' h g gb cap mb N m1 := by
  have hat := ahead_at hJ.inv.tile
  have hm := Tile.mem hJ.inv.tile a (by simp)
  rw [show (p : Int) - (a.size : Int) = (a.at' : Nat) by omega]
  exact size_any' H (by omega) (by omega) hk2 (by omega) (by rw [← hk]; exact hJ.inv.head a (by simp) (by omega))
theorem getA {B0 A2 C1 : List Bk} {p z : Nat} {a : Bk} {L1 : Nat → List Nat} {m1 : Nat → Nat} (hJ : St N m B0 0 0 (A2 ++ [a] ++ ⟨p, z, 2⟩ :: C1) L1 m1) (hk2 : a.k < 2) (H : Me w h g gb cap mb N m1) :
    Calls Tryd.prog 57 #[.pointer (some ⟨h, 0, none⟩), .int .i64 ((p : Int) + 4)] w fun e w' => e = .returned (.int .i64 a.size) ∧ Only [g] w w' ∧ Me w' h g gb cap mb N m1 := by
  have hat := ahead_at hJ.inv.tile
  have hm := Tile.mem hJ.inv.tile ⟨p, z, 2⟩ (by simp)
  simp only at hm
  have := get_any H (p := p + 4) (by omega) (by omega)
  have e := ahead_is hJ.inv (by omega) (by simp)
  rw [← hat] at e
  rw [e] at this
  push_cast at this
  exact this
theorem get0 {B0 C1 : List Bk} {p z : Nat} {L1 : Nat → List Nat} {m1 : Nat → Nat} (hJ : St N m B0 0 0 ([] ++ ⟨p, z, 2⟩ :: C1) L1 m1) (H : Me w h g gb cap mb N m1) :
    Calls Tryd.prog 57 #[.pointer (some ⟨h, 0, none⟩), .int .i64 ((p : Int) + 4)] w fun e w' => e = .returned (.int .i64 0) ∧ Only [g] w w' ∧ Me w' h g gb cap mb N m1 := by
  have hat : p = 112 := hJ.inv.tile.1
  have hm := hJ.inv.size
  have := get_any H (p := p + 4) (by omega) (by omega)
  rw [show p + 4 = 116 by omega, hJ.inv.first] at this
  rw [show (p : Int) + 4 = ((116 : Nat) : Int) by omega]
  exact this
theorem sizeB {c : Bk} {r : List Bk} {k : Nat} (H : Me w h g gb cap mb N m) (hI : Inv N m (A ++ b :: c :: r) L) (hk : c.k = k) (hk2 : k < 2) :
    Calls Tryd.prog 51 #[.pointer (some ⟨h, 0, none⟩), .int .i64 ((b.at' : Int) + (b.size : Int))] w fun e w' => e = .returned (.tuple #[.int .i64 c.size, .bool (k == 1)]) ∧ Only [g] w w' ∧ Me w' h g gb cap mb N m := by
  have hpos := hI.tile.pos
  have hat : c.at' = b.at' + b.size := hpos.2.2.2.2.2.2.1.1
  have hm := Tile.mem hI.tile c (by simp)
  rw [show (b.at' : Int) + (b.size : Int) = (c.at' : Nat) by omega]
  exact size_any' H (by omega) (by omega) hk2 (by omega) (by rw [← hk]; exact hI.head c (by simp) (by omega))
set_option maxHeartbeats 2000000 in
theorem free_any (H : Me w h g gb cap mb N m) (hI : Inv N m (A ++ b :: C) L) (hk : b.k = 2) (hn : ∀ y ∈ A ++ C, y.k ≠ 2) :
    Calls Tryd.prog 52 #[.pointer (some ⟨h, 0, none⟩), .int .i64 b.at', .int .i64 b.size] w fun e w' => e = .returned (.tuple #[]) ∧ Only [g, gb] w w' ∧ ∃ m', Me w' h g gb cap mb N m' ∧
      St N m (A ++ b :: C) b.at' (b.at' + b.size) (freeS A b.at' b.size C L).1 (freeS A b.at' b.size C L).2 m' := by
  have hpos := hI.tile.pos
  have hsz := hI.size
  have hbb : (⟨b.at', b.size, 2⟩ : Bk) = b := by rw [← hk]
  rcases C with _ | ⟨c, r⟩
  · have hcb : True := trivial
    rcases nil_or_end A with rfl | ⟨A', a, rfl⟩
    · have e0 : freeS [] b.at' b.size [] L = (putS [] b.at' b.size [] L) := by
        have e1 : backS b.size [] L = (b.size, [], L) := rfl
        have e2 : frontS [] b.at' b.size L = ([], b.at', b.size, L) := rfl
        unfold freeS
        rw [e1]
        simp only
        rw [e2]
      rw [e0]
      have hs1 : ∀ x, Off ([] ++ b :: []) x → Off ([] ++ ⟨b.at', b.size, 2⟩ :: []) x := fun x hx => hx.sub fun y hy => by
        rcases List.mem_append.1 hy with hy | hy
        · exact ⟨y, List.mem_append_left _ hy, rfl, id⟩
        · rcases List.mem_cons.1 hy with rfl | hy
          · exact ⟨b, by simp, rfl, fun h1 => absurd h1 (by simp)⟩
          · exact ⟨y, List.mem_append_right _ (List.mem_cons_of_mem _ hy), rfl, id⟩
      refine free_ee H (p := b.at') (z := b.size) (cs := 0) (ax := 0) ⟨hpos.1, by omega⟩ (by omega) (by omega) (by omega) (by omega) (J1 := St N m ([] ++ b :: []) 0 0 ([] ++ ⟨b.at', b.size, 2⟩ :: []) L) (J2 := St N m ([] ++ b :: []) 0 0 ([] ++ ⟨b.at', b.size, 2⟩ :: []) L) (by have : b.at' + b.size = N := hpos.2.2.2.2.2.2.1; omega)
        ⟨by rw [hbb]; exact hI, fun x _ _ => rfl⟩
        (fun m1 w1 J1 H1 => get0 J1 H1)
        (fun m1 J1 => J1)
        (fun m2 w1 J2 H1 => ?_)
      exact fin_put J2 hs1 (fun x hx hl => by omega) H1
    · have hak : a.k = 0 ∨ a.k = 1 := by
        have := hn a (by simp)
        have := hI.kind a (by simp)
        omega
      have hat := ahead_at (p := b.at') (z := b.size) (k := 2) (b := a) (A := A') (C := []) (by rw [hbb]; simpa using hI.tile)
      have hma := Tile.mem hI.tile a (by simp)
      rcases hak with hak | hak
      · have e0 : freeS (A' ++ [a]) b.at' b.size [] L = (putS (A' ++ [a]) b.at' b.size [] L) := by
          have e1 : backS b.size [] L = (b.size, [], L) := rfl
          have e2 : frontS (A' ++ [a]) b.at' b.size L = ((A' ++ [a]), b.at', b.size, L) := by simp [frontS, hak]
          unfold freeS
          rw [e1]
          simp only
          rw [e2]
        rw [e0]
        have hs1 : ∀ x, Off ((A' ++ [a]) ++ b :: []) x → Off ((A' ++ [a]) ++ ⟨b.at', b.size, 2⟩ :: []) x := fun x hx => hx.sub fun y hy => by
          rcases List.mem_append.1 hy with hy | hy
          · exact ⟨y, List.mem_append_left _ hy, rfl, id⟩
          · rcases List.mem_cons.1 hy with rfl | hy
            · exact ⟨b, by simp, rfl, fun h1 => absurd h1 (by simp)⟩
            · exact ⟨y, List.mem_append_right _ (List.mem_cons_of_mem _ hy), rfl, id⟩
        refine free_eu H (p := b.at') (z := b.size) (cs := 0) (ax := a.size) ⟨hpos.1, by omega⟩ (by omega) (by omega) (by omega) (by omega) (J1 := St N m ((A' ++ [a]) ++ b :: []) 0 0 ((A' ++ [a]) ++ ⟨b.at', b.size, 2⟩ :: []) L) (J2 := St N m ((A' ++ [a]) ++ b :: []) 0 0 ((A' ++ [a]) ++ ⟨b.at', b.size, 2⟩ :: []) L) (by have : b.at' + b.size = N := hpos.2.2.2.2.2.2.1; omega)
          ⟨by rw [hbb]; exact hI, fun x _ _ => rfl⟩
          (fun m1 w1 J1 H1 => getA J1 (by omega) H1)
          (by simp; omega)
          (fun m1 w1 J1 H1 => sizeA J1 (k := 0) hak (by omega) H1)
          (fun m1 J1 => J1)
          (fun m2 w1 J2 H1 => ?_)
        exact fin_put J2 hs1 (fun x hx hl => by omega) H1
      · have e0 : freeS (A' ++ [a]) b.at' b.size [] L = (putS A' a.at' (a.size + b.size) [] (rmL L (cls a.size) a.at')) := by
          have e1 : backS b.size [] L = (b.size, [], L) := rfl
          have e2 : frontS (A' ++ [a]) b.at' b.size L = (A', a.at', (a.size + b.size), (rmL L (cls a.size) a.at')) := by simp [frontS, hak]
          unfold freeS
          rw [e1]
          simp only
          rw [e2]
        rw [e0]
        have hs1 : ∀ x, Off ((A' ++ [a]) ++ b :: []) x → Off ((A' ++ [a]) ++ ⟨b.at', b.size, 2⟩ :: []) x := fun x hx => hx.sub fun y hy => by
          rcases List.mem_append.1 hy with hy | hy
          · exact ⟨y, List.mem_append_left _ hy, rfl, id⟩
          · rcases List.mem_cons.1 hy with rfl | hy
            · exact ⟨b, by simp, rfl, fun h1 => absurd h1 (by simp)⟩
            · exact ⟨y, List.mem_append_right _ (List.mem_cons_of_mem _ hy), rfl, id⟩
        refine free_ef H (p := b.at') (z := b.size) (cs := 0) (ax := a.size) ⟨hpos.1, by omega⟩ (by omega) (by omega) (by omega) (by omega) (J1 := St N m ((A' ++ [a]) ++ b :: []) 0 0 ((A' ++ [a]) ++ ⟨b.at', b.size, 2⟩ :: []) L) (J2 := St N m ((A' ++ [a]) ++ b :: []) 0 0 (A' ++ ⟨a.at', (a.size + b.size), 2⟩ :: []) (rmL L (cls a.size) a.at')) (by have : b.at' + b.size = N := hpos.2.2.2.2.2.2.1; omega)
          ⟨by rw [hbb]; exact hI, fun x _ _ => rfl⟩
          (fun m1 w1 J1 H1 => getA J1 (by omega) H1)
          (by simp; omega)
          (fun m1 w1 J1 H1 => sizeA J1 (k := 1) hak (by omega) H1)
          (fun m1 w1 J1 H1 => fin_front J1 hak hs1 H1)
          (fun m2 w1 J2 H1 => ?_)
        rw [show ((b.at' : Int) - (a.size : Int)) = ((a.at' : Nat) : Int) by omega, show ((b.size : Int) + (a.size : Int)) = (((a.size + b.size) : Nat) : Int) by push_cast; omega]
        exact fin_put J2 (fun x hx => hx.sub fun y hy => by
          rcases List.mem_append.1 hy with hy | hy
          · exact ⟨y, by simp [hy], rfl, id⟩
          · rcases List.mem_cons.1 hy with rfl | hy
            · exact ⟨a, by simp, rfl, fun h1 => absurd h1 (by simp)⟩
            · exact ⟨y, List.mem_append_right _ (List.mem_cons_of_mem _ hy), rfl, id⟩) (fun x hx hl => (hx.2 a (by simp)).2.2 hak) H1
  · have hcm := Tile.mem hI.tile c (by simp)
    have hca : c.at' = b.at' + b.size := hpos.2.2.2.2.2.2.1.1
    have hck : c.k = 0 ∨ c.k = 1 := by
      have := hn c (by simp)
      have := hI.kind c (by simp)
      omega
    rcases hck with hck | hck
    · have hcb : True := trivial
      rcases nil_or_end A with rfl | ⟨A', a, rfl⟩
      · have e0 : freeS [] b.at' b.size (c :: r) L = (putS [] b.at' b.size (c :: r) L) := by
          have e1 : backS b.size (c :: r) L = (b.size, (c :: r), L) := by simp [backS, hck]
          have e2 : frontS [] b.at' b.size L = ([], b.at', b.size, L) := rfl
          unfold freeS
          rw [e1]
          simp only
          rw [e2]
        rw [e0]
        have hs1 : ∀ x, Off ([] ++ b :: (c :: r)) x → Off ([] ++ ⟨b.at', b.size, 2⟩ :: (c :: r)) x := fun x hx => hx.sub fun y hy => by
          rcases List.mem_append.1 hy with hy | hy
          · exact ⟨y, List.mem_append_left _ hy, rfl, id⟩
          · rcases List.mem_cons.1 hy with rfl | hy
            · exact ⟨b, by simp, rfl, fun h1 => absurd h1 (by simp)⟩
            · exact ⟨y, List.mem_append_right _ (List.mem_cons_of_mem _ hy), rfl, id⟩
        refine free_ue H (p := b.at') (z := b.size) (cs := c.size) (ax := 0) ⟨hpos.1, by omega⟩ (by omega) (by omega) (by omega) (by omega) (J1 := St N m ([] ++ b :: (c :: r)) 0 0 ([] ++ ⟨b.at', b.size, 2⟩ :: (c :: r)) L) (J2 := St N m ([] ++ b :: (c :: r)) 0 0 ([] ++ ⟨b.at', b.size, 2⟩ :: (c :: r)) L) (by omega)
          (fun w1 H1 => sizeB H1 hI (k := 0) hck (by omega))
          ⟨by rw [hbb]; exact hI, fun x _ _ => rfl⟩
          (fun m1 w1 J1 H1 => get0 J1 H1)
          (fun m1 J1 => J1)
          (fun m2 w1 J2 H1 => ?_)
        exact fin_put J2 hs1 (fun x hx hl => by omega) H1
      · have hak : a.k = 0 ∨ a.k = 1 := by
          have := hn a (by simp)
          have := hI.kind a (by simp)
          omega
        have hat := ahead_at (p := b.at') (z := b.size) (k := 2) (b := a) (A := A') (C := (c :: r)) (by rw [hbb]; simpa using hI.tile)
        have hma := Tile.mem hI.tile a (by simp)
        rcases hak with hak | hak
        · have e0 : freeS (A' ++ [a]) b.at' b.size (c :: r) L = (putS (A' ++ [a]) b.at' b.size (c :: r) L) := by
            have e1 : backS b.size (c :: r) L = (b.size, (c :: r), L) := by simp [backS, hck]
            have e2 : frontS (A' ++ [a]) b.at' b.size L = ((A' ++ [a]), b.at', b.size, L) := by simp [frontS, hak]
            unfold freeS
            rw [e1]
            simp only
            rw [e2]
          rw [e0]
          have hs1 : ∀ x, Off ((A' ++ [a]) ++ b :: (c :: r)) x → Off ((A' ++ [a]) ++ ⟨b.at', b.size, 2⟩ :: (c :: r)) x := fun x hx => hx.sub fun y hy => by
            rcases List.mem_append.1 hy with hy | hy
            · exact ⟨y, List.mem_append_left _ hy, rfl, id⟩
            · rcases List.mem_cons.1 hy with rfl | hy
              · exact ⟨b, by simp, rfl, fun h1 => absurd h1 (by simp)⟩
              · exact ⟨y, List.mem_append_right _ (List.mem_cons_of_mem _ hy), rfl, id⟩
          refine free_uu H (p := b.at') (z := b.size) (cs := c.size) (ax := a.size) ⟨hpos.1, by omega⟩ (by omega) (by omega) (by omega) (by omega) (J1 := St N m ((A' ++ [a]) ++ b :: (c :: r)) 0 0 ((A' ++ [a]) ++ ⟨b.at', b.size, 2⟩ :: (c :: r)) L) (J2 := St N m ((A' ++ [a]) ++ b :: (c :: r)) 0 0 ((A' ++ [a]) ++ ⟨b.at', b.size, 2⟩ :: (c :: r)) L) (by omega)
            (fun w1 H1 => sizeB H1 hI (k := 0) hck (by omega))
            ⟨by rw [hbb]; exact hI, fun x _ _ => rfl⟩
            (fun m1 w1 J1 H1 => getA J1 (by omega) H1)
            (by simp; omega)
            (fun m1 w1 J1 H1 => sizeA J1 (k := 0) hak (by omega) H1)
            (fun m1 J1 => J1)
            (fun m2 w1 J2 H1 => ?_)
          exact fin_put J2 hs1 (fun x hx hl => by omega) H1
        · have e0 : freeS (A' ++ [a]) b.at' b.size (c :: r) L = (putS A' a.at' (a.size + b.size) (c :: r) (rmL L (cls a.size) a.at')) := by
            have e1 : backS b.size (c :: r) L = (b.size, (c :: r), L) := by simp [backS, hck]
            have e2 : frontS (A' ++ [a]) b.at' b.size L = (A', a.at', (a.size + b.size), (rmL L (cls a.size) a.at')) := by simp [frontS, hak]
            unfold freeS
            rw [e1]
            simp only
            rw [e2]
          rw [e0]
          have hs1 : ∀ x, Off ((A' ++ [a]) ++ b :: (c :: r)) x → Off ((A' ++ [a]) ++ ⟨b.at', b.size, 2⟩ :: (c :: r)) x := fun x hx => hx.sub fun y hy => by
            rcases List.mem_append.1 hy with hy | hy
            · exact ⟨y, List.mem_append_left _ hy, rfl, id⟩
            · rcases List.mem_cons.1 hy with rfl | hy
              · exact ⟨b, by simp, rfl, fun h1 => absurd h1 (by simp)⟩
              · exact ⟨y, List.mem_append_right _ (List.mem_cons_of_mem _ hy), rfl, id⟩
          refine free_uf H (p := b.at') (z := b.size) (cs := c.size) (ax := a.size) ⟨hpos.1, by omega⟩ (by omega) (by omega) (by omega) (by omega) (J1 := St N m ((A' ++ [a]) ++ b :: (c :: r)) 0 0 ((A' ++ [a]) ++ ⟨b.at', b.size, 2⟩ :: (c :: r)) L) (J2 := St N m ((A' ++ [a]) ++ b :: (c :: r)) 0 0 (A' ++ ⟨a.at', (a.size + b.size), 2⟩ :: (c :: r)) (rmL L (cls a.size) a.at')) (by omega)
            (fun w1 H1 => sizeB H1 hI (k := 0) hck (by omega))
            ⟨by rw [hbb]; exact hI, fun x _ _ => rfl⟩
            (fun m1 w1 J1 H1 => getA J1 (by omega) H1)
            (by simp; omega)
            (fun m1 w1 J1 H1 => sizeA J1 (k := 1) hak (by omega) H1)
            (fun m1 w1 J1 H1 => fin_front J1 hak hs1 H1)
            (fun m2 w1 J2 H1 => ?_)
          rw [show ((b.at' : Int) - (a.size : Int)) = ((a.at' : Nat) : Int) by omega, show ((b.size : Int) + (a.size : Int)) = (((a.size + b.size) : Nat) : Int) by push_cast; omega]
          exact fin_put J2 (fun x hx => hx.sub fun y hy => by
            rcases List.mem_append.1 hy with hy | hy
            · exact ⟨y, by simp [hy], rfl, id⟩
            · rcases List.mem_cons.1 hy with rfl | hy
              · exact ⟨a, by simp, rfl, fun h1 => absurd h1 (by simp)⟩
              · exact ⟨y, List.mem_append_right _ (List.mem_cons_of_mem _ hy), rfl, id⟩) (fun x hx hl => (hx.2 a (by simp)).2.2 hak) H1
    · have hcb : True := trivial
      rcases nil_or_end A with rfl | ⟨A', a, rfl⟩
      · have e0 : freeS [] b.at' b.size (c :: r) L = (putS [] b.at' (b.size + c.size) r (rmL L (cls c.size) c.at')) := by
          have e1 : backS b.size (c :: r) L = ((b.size + c.size), r, (rmL L (cls c.size) c.at')) := by simp [backS, hck]
          have e2 : frontS [] b.at' (b.size + c.size) (rmL L (cls c.size) c.at') = ([], b.at', (b.size + c.size), (rmL L (cls c.size) c.at')) := rfl
          unfold freeS
          rw [e1]
          simp only
          rw [e2]
        rw [e0]
        have hs1 : ∀ x, Off ([] ++ b :: (c :: r)) x → Off ([] ++ ⟨b.at', (b.size + c.size), 2⟩ :: r) x := fun x hx => hx.sub fun y hy => by
          rcases List.mem_append.1 hy with hy | hy
          · exact ⟨y, List.mem_append_left _ hy, rfl, id⟩
          · rcases List.mem_cons.1 hy with rfl | hy
            · exact ⟨b, by simp, rfl, fun h1 => absurd h1 (by simp)⟩
            · exact ⟨y, List.mem_append_right _ (List.mem_cons_of_mem _ (List.mem_cons_of_mem _ hy)), rfl, id⟩
        refine free_fe H (p := b.at') (z := b.size) (cs := c.size) (ax := 0) ⟨hpos.1, by omega⟩ (by omega) (by omega) (by omega) (by omega) (J1 := St N m ([] ++ b :: (c :: r)) 0 0 ([] ++ ⟨b.at', (b.size + c.size), 2⟩ :: r) (rmL L (cls c.size) c.at')) (J2 := St N m ([] ++ b :: (c :: r)) 0 0 ([] ++ ⟨b.at', (b.size + c.size), 2⟩ :: r) (rmL L (cls c.size) c.at')) (by omega)
          (fun w1 H1 => sizeB H1 hI (k := 1) hck (by omega))
          (fun w1 H1 => stage_back H1 hI hk hck)
          (fun m1 w1 J1 H1 => get0 J1 H1)
          (fun m1 J1 => J1)
          (fun m2 w1 J2 H1 => ?_)
        rw [show ((b.size : Int) + (c.size : Int)) = (((b.size + c.size) : Nat) : Int) by push_cast; rfl]
        exact fin_put J2 hs1 (fun x hx hl => by omega) H1
      · have hak : a.k = 0 ∨ a.k = 1 := by
          have := hn a (by simp)
          have := hI.kind a (by simp)
          omega
        have hat := ahead_at (p := b.at') (z := b.size) (k := 2) (b := a) (A := A') (C := (c :: r)) (by rw [hbb]; simpa using hI.tile)
        have hma := Tile.mem hI.tile a (by simp)
        rcases hak with hak | hak
        · have e0 : freeS (A' ++ [a]) b.at' b.size (c :: r) L = (putS (A' ++ [a]) b.at' (b.size + c.size) r (rmL L (cls c.size) c.at')) := by
            have e1 : backS b.size (c :: r) L = ((b.size + c.size), r, (rmL L (cls c.size) c.at')) := by simp [backS, hck]
            have e2 : frontS (A' ++ [a]) b.at' (b.size + c.size) (rmL L (cls c.size) c.at') = ((A' ++ [a]), b.at', (b.size + c.size), (rmL L (cls c.size) c.at')) := by simp [frontS, hak]
            unfold freeS
            rw [e1]
            simp only
            rw [e2]
          rw [e0]
          have hs1 : ∀ x, Off ((A' ++ [a]) ++ b :: (c :: r)) x → Off ((A' ++ [a]) ++ ⟨b.at', (b.size + c.size), 2⟩ :: r) x := fun x hx => hx.sub fun y hy => by
            rcases List.mem_append.1 hy with hy | hy
            · exact ⟨y, List.mem_append_left _ hy, rfl, id⟩
            · rcases List.mem_cons.1 hy with rfl | hy
              · exact ⟨b, by simp, rfl, fun h1 => absurd h1 (by simp)⟩
              · exact ⟨y, List.mem_append_right _ (List.mem_cons_of_mem _ (List.mem_cons_of_mem _ hy)), rfl, id⟩
          refine free_fu H (p := b.at') (z := b.size) (cs := c.size) (ax := a.size) ⟨hpos.1, by omega⟩ (by omega) (by omega) (by omega) (by omega) (J1 := St N m ((A' ++ [a]) ++ b :: (c :: r)) 0 0 ((A' ++ [a]) ++ ⟨b.at', (b.size + c.size), 2⟩ :: r) (rmL L (cls c.size) c.at')) (J2 := St N m ((A' ++ [a]) ++ b :: (c :: r)) 0 0 ((A' ++ [a]) ++ ⟨b.at', (b.size + c.size), 2⟩ :: r) (rmL L (cls c.size) c.at')) (by omega)
            (fun w1 H1 => sizeB H1 hI (k := 1) hck (by omega))
            (fun w1 H1 => stage_back H1 hI hk hck)
            (fun m1 w1 J1 H1 => getA J1 (by omega) H1)
            (by simp; omega)
            (fun m1 w1 J1 H1 => sizeA J1 (k := 0) hak (by omega) H1)
            (fun m1 J1 => J1)
            (fun m2 w1 J2 H1 => ?_)
          rw [show ((b.size : Int) + (c.size : Int)) = (((b.size + c.size) : Nat) : Int) by push_cast; rfl]
          exact fin_put J2 hs1 (fun x hx hl => by omega) H1
        · have e0 : freeS (A' ++ [a]) b.at' b.size (c :: r) L = (putS A' a.at' (a.size + (b.size + c.size)) r (rmL (rmL L (cls c.size) c.at') (cls a.size) a.at')) := by
            have e1 : backS b.size (c :: r) L = ((b.size + c.size), r, (rmL L (cls c.size) c.at')) := by simp [backS, hck]
            have e2 : frontS (A' ++ [a]) b.at' (b.size + c.size) (rmL L (cls c.size) c.at') = (A', a.at', (a.size + (b.size + c.size)), (rmL (rmL L (cls c.size) c.at') (cls a.size) a.at')) := by simp [frontS, hak]
            unfold freeS
            rw [e1]
            simp only
            rw [e2]
          rw [e0]
          have hs1 : ∀ x, Off ((A' ++ [a]) ++ b :: (c :: r)) x → Off ((A' ++ [a]) ++ ⟨b.at', (b.size + c.size), 2⟩ :: r) x := fun x hx => hx.sub fun y hy => by
            rcases List.mem_append.1 hy with hy | hy
            · exact ⟨y, List.mem_append_left _ hy, rfl, id⟩
            · rcases List.mem_cons.1 hy with rfl | hy
              · exact ⟨b, by simp, rfl, fun h1 => absurd h1 (by simp)⟩
              · exact ⟨y, List.mem_append_right _ (List.mem_cons_of_mem _ (List.mem_cons_of_mem _ hy)), rfl, id⟩
          refine free_ff H (p := b.at') (z := b.size) (cs := c.size) (ax := a.size) ⟨hpos.1, by omega⟩ (by omega) (by omega) (by omega) (by omega) (J1 := St N m ((A' ++ [a]) ++ b :: (c :: r)) 0 0 ((A' ++ [a]) ++ ⟨b.at', (b.size + c.size), 2⟩ :: r) (rmL L (cls c.size) c.at')) (J2 := St N m ((A' ++ [a]) ++ b :: (c :: r)) 0 0 (A' ++ ⟨a.at', (a.size + (b.size + c.size)), 2⟩ :: r) (rmL (rmL L (cls c.size) c.at') (cls a.size) a.at')) (by omega)
            (fun w1 H1 => sizeB H1 hI (k := 1) hck (by omega))
            (fun w1 H1 => stage_back H1 hI hk hck)
            (fun m1 w1 J1 H1 => getA J1 (by omega) H1)
            (by simp; omega)
            (fun m1 w1 J1 H1 => sizeA J1 (k := 1) hak (by omega) H1)
            (fun m1 w1 J1 H1 => fin_front J1 hak hs1 H1)
            (fun m2 w1 J2 H1 => ?_)
          rw [show ((b.at' : Int) - (a.size : Int)) = ((a.at' : Nat) : Int) by omega, show (((b.size : Int) + (c.size : Int)) + (a.size : Int)) = (((a.size + (b.size + c.size)) : Nat) : Int) by push_cast; omega]
          exact fin_put J2 (fun x hx => hx.sub fun y hy => by
            rcases List.mem_append.1 hy with hy | hy
            · exact ⟨y, by simp [hy], rfl, id⟩
            · rcases List.mem_cons.1 hy with rfl | hy
              · exact ⟨a, by simp, rfl, fun h1 => absurd h1 (by simp)⟩
              · exact ⟨y, List.mem_append_right _ (List.mem_cons_of_mem _ (List.mem_cons_of_mem _ hy)), rfl, id⟩) (fun x hx hl => (hx.2 a (by simp)).2.2 hak) H1
end
end Go.Proofs.YthlaoanfoimkfaaDoor
