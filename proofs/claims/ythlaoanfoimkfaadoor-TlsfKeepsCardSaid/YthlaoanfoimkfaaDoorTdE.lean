/- Tlsf: its free. No condition but what each theorem says. -/
import Derived.Test.YthlaoanfoimkfaaDoorTdD
namespace Go.Proofs.YthlaoanfoimkfaaDoor
open Go.RowKit
set_option linter.unusedVariables false
set_option linter.all false
set_option maxRecDepth 100000
section
variable {w w' : World} {r gB gM N : Nat} {B A C : List Bk} {b : Bk} {L : Nat → List Nat} {M : List UInt8} {S : List Nat}
set_option maxHeartbeats 2000000 in
theorem dfree_ee {i j n cB : Nat} {J0 J1 J2 J3 K1 : World → Prop} (hnn : n ≤ 100000) (hii : i < 100000) (k0 : w.cell? ⟨r, 0, none⟩ = some (.slice (some ⟨gB, 0, none⟩) n cB)) (hn : n = i + 1) (h1 : J1 w) (hi0 : i = 0) (h12 : ∀ w1, J1 w1 → J2 w1) (PUT : ∀ w1, J2 w1 → Calls Tryd.prog 22 #[.pointer (some ⟨r, 0, none⟩), .int .i64 i] w1 fun e w' => e = .returned (.tuple #[]) ∧ J3 w') :
    Calls Tryd.prog 67 #[.pointer (some ⟨r, 0, none⟩), .int .i64 i] w fun e w' => e = .returned (.tuple #[]) ∧ J3 w' := by
  have i0 : (0 : Int) ≤ (i : Int) := by omega
  have i1 : ¬ (i : Int) + 1 < (n : Int) := by omega
  have p1 : ¬ (0 : Int) < (i : Int) := by omega
  replace h1 := Lib.hid h1
  replace h12 := Lib.hid h12
  replace PUT := Lib.hid PUT
  clear hi0
  go_enter Tryd.func67, Tryd.ntmps67
  go_wp2_with (first
    | (go_at_call 22; (with_reducible refine (PUT.out _ (h12.out _ h1.out)).mono ?_); rintro e w5 ⟨rfl, j3⟩))
  go_end0
  exact ⟨rfl, j3⟩
set_option maxHeartbeats 2000000 in
theorem dfree_eu {i j n cB : Nat} {J0 J1 J2 J3 K1 : World → Prop} (hnn : n ≤ 100000) (hii : i < 100000) (k0 : w.cell? ⟨r, 0, none⟩ = some (.slice (some ⟨gB, 0, none⟩) n cB)) (hn : n = i + 1) (h1 : J1 w) (hij : i = j + 1) (C1 : ∀ w1, J1 w1 → ∃ g1 n1 c1, w1.cell? ⟨r, 0, none⟩ = some (.slice (some ⟨g1, 0, none⟩) n1 c1) ∧ i ≤ n1 ∧ w1.cell? ⟨g1, j * 3 + 2, none⟩ = some (.bool false)) (h12 : ∀ w1, J1 w1 → J2 w1) (PUT : ∀ w1, J2 w1 → Calls Tryd.prog 22 #[.pointer (some ⟨r, 0, none⟩), .int .i64 i] w1 fun e w' => e = .returned (.tuple #[]) ∧ J3 w') :
    Calls Tryd.prog 67 #[.pointer (some ⟨r, 0, none⟩), .int .i64 i] w fun e w' => e = .returned (.tuple #[]) ∧ J3 w' := by
  have i0 : (0 : Int) ≤ (i : Int) := by omega
  have i1 : ¬ (i : Int) + 1 < (n : Int) := by omega
  have p1 : (0 : Int) < (i : Int) := by omega
  have p2 : (i : Int) - 1 = (j : Int) := by omega
  have p3 : (0 : Int) ≤ (j : Int) := by omega
  replace h1 := Lib.hid h1
  replace C1 := Lib.hid C1
  replace h12 := Lib.hid h12
  replace PUT := Lib.hid PUT
  obtain ⟨g1, n1, c1, q0, q1, q2⟩ := C1.out _ h1.out
  have q3 : (j : Int) < (n1 : Int) := by omega
  obtain ⟨e1, e2, e3⟩ : g1 = gB ∧ n1 = n ∧ c1 = cB := by
    have := k0.symm.trans q0
    simp at this
    exact ⟨this.1.symm, this.2.1.symm, this.2.2.symm⟩
  subst e1 e2 e3
  clear hij
  clear hn
  go_enter Tryd.func67, Tryd.ntmps67
  go_wp2_with (first
    | (go_at_call 22; (with_reducible refine (PUT.out _ (h12.out _ h1.out)).mono ?_); rintro e w5 ⟨rfl, j3⟩))
  go_end0
  exact ⟨rfl, j3⟩
set_option maxHeartbeats 2000000 in
theorem dfree_ef {i j n cB : Nat} {J0 J1 J2 J3 K1 : World → Prop} (hnn : n ≤ 100000) (hii : i < 100000) (k0 : w.cell? ⟨r, 0, none⟩ = some (.slice (some ⟨gB, 0, none⟩) n cB)) (hn : n = i + 1) (h1 : J1 w) (hij : i = j + 1) (C1 : ∀ w1, J1 w1 → ∃ g1 n1 c1, w1.cell? ⟨r, 0, none⟩ = some (.slice (some ⟨g1, 0, none⟩) n1 c1) ∧ i ≤ n1 ∧ w1.cell? ⟨g1, j * 3 + 2, none⟩ = some (.bool true)) (OUT2 : ∀ w1, J1 w1 → Calls Tryd.prog 68 #[.pointer (some ⟨r, 0, none⟩), .int .i64 j] w1 fun e w' => e = .returned (.tuple #[]) ∧ K1 w') (JOIN2 : ∀ w1, K1 w1 → Calls Tryd.prog 69 #[.pointer (some ⟨r, 0, none⟩), .int .i64 j] w1 fun e w' => e = .returned (.tuple #[]) ∧ J2 w') (PUT : ∀ w1, J2 w1 → Calls Tryd.prog 22 #[.pointer (some ⟨r, 0, none⟩), .int .i64 j] w1 fun e w' => e = .returned (.tuple #[]) ∧ J3 w') :
    Calls Tryd.prog 67 #[.pointer (some ⟨r, 0, none⟩), .int .i64 i] w fun e w' => e = .returned (.tuple #[]) ∧ J3 w' := by
  have i0 : (0 : Int) ≤ (i : Int) := by omega
  have i1 : ¬ (i : Int) + 1 < (n : Int) := by omega
  have p1 : (0 : Int) < (i : Int) := by omega
  have p2 : (i : Int) - 1 = (j : Int) := by omega
  have p3 : (0 : Int) ≤ (j : Int) := by omega
  replace h1 := Lib.hid h1
  replace C1 := Lib.hid C1
  replace OUT2 := Lib.hid OUT2
  replace JOIN2 := Lib.hid JOIN2
  replace PUT := Lib.hid PUT
  obtain ⟨g1, n1, c1, q0, q1, q2⟩ := C1.out _ h1.out
  have q3 : (j : Int) < (n1 : Int) := by omega
  obtain ⟨e1, e2, e3⟩ : g1 = gB ∧ n1 = n ∧ c1 = cB := by
    have := k0.symm.trans q0
    simp at this
    exact ⟨this.1.symm, this.2.1.symm, this.2.2.symm⟩
  subst e1 e2 e3
  clear hij
  clear hn
  go_enter Tryd.func67, Tryd.ntmps67
  go_wp2_with (first
    | (go_at_call 68; (with_reducible refine (OUT2.out _ h1.out).mono ?_); rintro e w3 ⟨rfl, k1⟩)
    | (go_at_call 69; (with_reducible refine (JOIN2.out _ k1).mono ?_); rintro e w4 ⟨rfl, j2⟩)
    | (go_at_call 22; (with_reducible refine (PUT.out _ j2).mono ?_); rintro e w5 ⟨rfl, j3⟩))
  go_end0
  exact ⟨rfl, j3⟩
set_option maxHeartbeats 2000000 in
theorem dfree_ue {i j n cB : Nat} {J0 J1 J2 J3 K1 : World → Prop} (hnn : n ≤ 100000) (hii : i < 100000) (k0 : w.cell? ⟨r, 0, none⟩ = some (.slice (some ⟨gB, 0, none⟩) n cB)) (hn : i + 1 < n) (kc : w.cell? ⟨gB, (i + 1) * 3 + 2, none⟩ = some (.bool false)) (h1 : J1 w) (hi0 : i = 0) (h12 : ∀ w1, J1 w1 → J2 w1) (PUT : ∀ w1, J2 w1 → Calls Tryd.prog 22 #[.pointer (some ⟨r, 0, none⟩), .int .i64 i] w1 fun e w' => e = .returned (.tuple #[]) ∧ J3 w') :
    Calls Tryd.prog 67 #[.pointer (some ⟨r, 0, none⟩), .int .i64 i] w fun e w' => e = .returned (.tuple #[]) ∧ J3 w' := by
  have i0 : (0 : Int) ≤ (i : Int) := by omega
  have i1 : (i : Int) + 1 < (n : Int) := by omega
  have i2 : (0 : Int) ≤ (i : Int) + 1 := by omega
  have p1 : ¬ (0 : Int) < (i : Int) := by omega
  replace h1 := Lib.hid h1
  replace h12 := Lib.hid h12
  replace PUT := Lib.hid PUT
  clear hi0
  go_enter Tryd.func67, Tryd.ntmps67
  go_wp2_with (first
    | (go_at_call 22; (with_reducible refine (PUT.out _ (h12.out _ h1.out)).mono ?_); rintro e w5 ⟨rfl, j3⟩))
  go_end0
  exact ⟨rfl, j3⟩
set_option maxHeartbeats 2000000 in
theorem dfree_uu {i j n cB : Nat} {J0 J1 J2 J3 K1 : World → Prop} (hnn : n ≤ 100000) (hii : i < 100000) (k0 : w.cell? ⟨r, 0, none⟩ = some (.slice (some ⟨gB, 0, none⟩) n cB)) (hn : i + 1 < n) (kc : w.cell? ⟨gB, (i + 1) * 3 + 2, none⟩ = some (.bool false)) (h1 : J1 w) (hij : i = j + 1) (C1 : ∀ w1, J1 w1 → ∃ g1 n1 c1, w1.cell? ⟨r, 0, none⟩ = some (.slice (some ⟨g1, 0, none⟩) n1 c1) ∧ i ≤ n1 ∧ w1.cell? ⟨g1, j * 3 + 2, none⟩ = some (.bool false)) (h12 : ∀ w1, J1 w1 → J2 w1) (PUT : ∀ w1, J2 w1 → Calls Tryd.prog 22 #[.pointer (some ⟨r, 0, none⟩), .int .i64 i] w1 fun e w' => e = .returned (.tuple #[]) ∧ J3 w') :
    Calls Tryd.prog 67 #[.pointer (some ⟨r, 0, none⟩), .int .i64 i] w fun e w' => e = .returned (.tuple #[]) ∧ J3 w' := by
  have i0 : (0 : Int) ≤ (i : Int) := by omega
  have i1 : (i : Int) + 1 < (n : Int) := by omega
  have i2 : (0 : Int) ≤ (i : Int) + 1 := by omega
  have p1 : (0 : Int) < (i : Int) := by omega
  have p2 : (i : Int) - 1 = (j : Int) := by omega
  have p3 : (0 : Int) ≤ (j : Int) := by omega
  replace h1 := Lib.hid h1
  replace C1 := Lib.hid C1
  replace h12 := Lib.hid h12
  replace PUT := Lib.hid PUT
  obtain ⟨g1, n1, c1, q0, q1, q2⟩ := C1.out _ h1.out
  have q3 : (j : Int) < (n1 : Int) := by omega
  obtain ⟨e1, e2, e3⟩ : g1 = gB ∧ n1 = n ∧ c1 = cB := by
    have := k0.symm.trans q0
    simp at this
    exact ⟨this.1.symm, this.2.1.symm, this.2.2.symm⟩
  subst e1 e2 e3
  clear hij
  go_enter Tryd.func67, Tryd.ntmps67
  go_wp2_with (first
    | (go_at_call 22; (with_reducible refine (PUT.out _ (h12.out _ h1.out)).mono ?_); rintro e w5 ⟨rfl, j3⟩))
  go_end0
  exact ⟨rfl, j3⟩
set_option maxHeartbeats 2000000 in
theorem dfree_uf {i j n cB : Nat} {J0 J1 J2 J3 K1 : World → Prop} (hnn : n ≤ 100000) (hii : i < 100000) (k0 : w.cell? ⟨r, 0, none⟩ = some (.slice (some ⟨gB, 0, none⟩) n cB)) (hn : i + 1 < n) (kc : w.cell? ⟨gB, (i + 1) * 3 + 2, none⟩ = some (.bool false)) (h1 : J1 w) (hij : i = j + 1) (C1 : ∀ w1, J1 w1 → ∃ g1 n1 c1, w1.cell? ⟨r, 0, none⟩ = some (.slice (some ⟨g1, 0, none⟩) n1 c1) ∧ i ≤ n1 ∧ w1.cell? ⟨g1, j * 3 + 2, none⟩ = some (.bool true)) (OUT2 : ∀ w1, J1 w1 → Calls Tryd.prog 68 #[.pointer (some ⟨r, 0, none⟩), .int .i64 j] w1 fun e w' => e = .returned (.tuple #[]) ∧ K1 w') (JOIN2 : ∀ w1, K1 w1 → Calls Tryd.prog 69 #[.pointer (some ⟨r, 0, none⟩), .int .i64 j] w1 fun e w' => e = .returned (.tuple #[]) ∧ J2 w') (PUT : ∀ w1, J2 w1 → Calls Tryd.prog 22 #[.pointer (some ⟨r, 0, none⟩), .int .i64 j] w1 fun e w' => e = .returned (.tuple #[]) ∧ J3 w') :
    Calls Tryd.prog 67 #[.pointer (some ⟨r, 0, none⟩), .int .i64 i] w fun e w' => e = .returned (.tuple #[]) ∧ J3 w' := by
  have i0 : (0 : Int) ≤ (i : Int) := by omega
  have i1 : (i : Int) + 1 < (n : Int) := by omega
  have i2 : (0 : Int) ≤ (i : Int) + 1 := by omega
  have p1 : (0 : Int) < (i : Int) := by omega
  have p2 : (i : Int) - 1 = (j : Int) := by omega
  have p3 : (0 : Int) ≤ (j : Int) := by omega
  replace h1 := Lib.hid h1
  replace C1 := Lib.hid C1
  replace OUT2 := Lib.hid OUT2
  replace JOIN2 := Lib.hid JOIN2
  replace PUT := Lib.hid PUT
  obtain ⟨g1, n1, c1, q0, q1, q2⟩ := C1.out _ h1.out
  have q3 : (j : Int) < (n1 : Int) := by omega
  obtain ⟨e1, e2, e3⟩ : g1 = gB ∧ n1 = n ∧ c1 = cB := by
    have := k0.symm.trans q0
    simp at this
    exact ⟨this.1.symm, this.2.1.symm, this.2.2.symm⟩
  subst e1 e2 e3
  clear hij
  go_enter Tryd.func67, Tryd.ntmps67
  go_wp2_with (first
    | (go_at_call 68; (with_reducible refine (OUT2.out _ h1.out).mono ?_); rintro e w3 ⟨rfl, k1⟩)
    | (go_at_call 69; (with_reducible refine (JOIN2.out _ k1).mono ?_); rintro e w4 ⟨rfl, j2⟩)
    | (go_at_call 22; (with_reducible refine (PUT.out _ j2).mono ?_); rintro e w5 ⟨rfl, j3⟩))
  go_end0
  exact ⟨rfl, j3⟩
set_option maxHeartbeats 2000000 in
theorem dfree_fe {i j n cB : Nat} {J0 J1 J2 J3 K1 : World → Prop} (hnn : n ≤ 100000) (hii : i < 100000) (k0 : w.cell? ⟨r, 0, none⟩ = some (.slice (some ⟨gB, 0, none⟩) n cB)) (hn : i + 1 < n) (kc : w.cell? ⟨gB, (i + 1) * 3 + 2, none⟩ = some (.bool true)) (OUT : Calls Tryd.prog 68 #[.pointer (some ⟨r, 0, none⟩), .int .i64 ((i : Int) + 1)] w fun e w' => e = .returned (.tuple #[]) ∧ J0 w') (JOIN : ∀ w1, J0 w1 → Calls Tryd.prog 69 #[.pointer (some ⟨r, 0, none⟩), .int .i64 i] w1 fun e w' => e = .returned (.tuple #[]) ∧ J1 w') (hi0 : i = 0) (h12 : ∀ w1, J1 w1 → J2 w1) (PUT : ∀ w1, J2 w1 → Calls Tryd.prog 22 #[.pointer (some ⟨r, 0, none⟩), .int .i64 i] w1 fun e w' => e = .returned (.tuple #[]) ∧ J3 w') :
    Calls Tryd.prog 67 #[.pointer (some ⟨r, 0, none⟩), .int .i64 i] w fun e w' => e = .returned (.tuple #[]) ∧ J3 w' := by
  have i0 : (0 : Int) ≤ (i : Int) := by omega
  have i1 : (i : Int) + 1 < (n : Int) := by omega
  have i2 : (0 : Int) ≤ (i : Int) + 1 := by omega
  have p1 : ¬ (0 : Int) < (i : Int) := by omega
  replace OUT := Lib.hid OUT
  replace JOIN := Lib.hid JOIN
  replace h12 := Lib.hid h12
  replace PUT := Lib.hid PUT
  clear hi0
  go_enter Tryd.func67, Tryd.ntmps67
  go_wp2_with (first
    | (go_at_call 68; (with_reducible refine OUT.out.mono ?_); rintro e w1 ⟨rfl, j0⟩)
    | (go_at_call 69; (with_reducible refine (JOIN.out _ j0).mono ?_); rintro e w2 ⟨rfl, j1⟩)
    | (go_at_call 22; (with_reducible refine (PUT.out _ (h12.out _ j1)).mono ?_); rintro e w5 ⟨rfl, j3⟩))
  go_end0
  exact ⟨rfl, j3⟩
set_option maxHeartbeats 2000000 in
theorem dfree_fu {i j n cB : Nat} {J0 J1 J2 J3 K1 : World → Prop} (hnn : n ≤ 100000) (hii : i < 100000) (k0 : w.cell? ⟨r, 0, none⟩ = some (.slice (some ⟨gB, 0, none⟩) n cB)) (hn : i + 1 < n) (kc : w.cell? ⟨gB, (i + 1) * 3 + 2, none⟩ = some (.bool true)) (OUT : Calls Tryd.prog 68 #[.pointer (some ⟨r, 0, none⟩), .int .i64 ((i : Int) + 1)] w fun e w' => e = .returned (.tuple #[]) ∧ J0 w') (JOIN : ∀ w1, J0 w1 → Calls Tryd.prog 69 #[.pointer (some ⟨r, 0, none⟩), .int .i64 i] w1 fun e w' => e = .returned (.tuple #[]) ∧ J1 w') (hij : i = j + 1) (C1 : ∀ w1, J1 w1 → ∃ g1 n1 c1, w1.cell? ⟨r, 0, none⟩ = some (.slice (some ⟨g1, 0, none⟩) n1 c1) ∧ i ≤ n1 ∧ w1.cell? ⟨g1, j * 3 + 2, none⟩ = some (.bool false)) (h12 : ∀ w1, J1 w1 → J2 w1) (PUT : ∀ w1, J2 w1 → Calls Tryd.prog 22 #[.pointer (some ⟨r, 0, none⟩), .int .i64 i] w1 fun e w' => e = .returned (.tuple #[]) ∧ J3 w') :
    Calls Tryd.prog 67 #[.pointer (some ⟨r, 0, none⟩), .int .i64 i] w fun e w' => e = .returned (.tuple #[]) ∧ J3 w' := by
  have i0 : (0 : Int) ≤ (i : Int) := by omega
  have i1 : (i : Int) + 1 < (n : Int) := by omega
  have i2 : (0 : Int) ≤ (i : Int) + 1 := by omega
  have p1 : (0 : Int) < (i : Int) := by omega
  have p2 : (i : Int) - 1 = (j : Int) := by omega
  have p3 : (0 : Int) ≤ (j : Int) := by omega
  replace OUT := Lib.hid OUT
  replace JOIN := Lib.hid JOIN
  replace C1 := Lib.hid C1
  replace h12 := Lib.hid h12
  replace PUT := Lib.hid PUT
  clear hij
  go_enter Tryd.func67, Tryd.ntmps67
  go_wp2_with (first
    | (go_at_call 68; (with_reducible refine OUT.out.mono ?_); rintro e w1 ⟨rfl, j0⟩)
    | (go_at_call 69; (with_reducible refine (JOIN.out _ j0).mono ?_); rintro e w2 ⟨rfl, j1⟩; obtain ⟨g1, n1, c1, q0, q1, q2⟩ := C1.out _ j1; have q3 : (j : Int) < (n1 : Int) := (by omega))
    | (go_at_call 22; (with_reducible refine (PUT.out _ (h12.out _ j1)).mono ?_); rintro e w5 ⟨rfl, j3⟩))
  go_end0
  exact ⟨rfl, j3⟩
set_option maxHeartbeats 2000000 in
theorem dfree_ff {i j n cB : Nat} {J0 J1 J2 J3 K1 : World → Prop} (hnn : n ≤ 100000) (hii : i < 100000) (k0 : w.cell? ⟨r, 0, none⟩ = some (.slice (some ⟨gB, 0, none⟩) n cB)) (hn : i + 1 < n) (kc : w.cell? ⟨gB, (i + 1) * 3 + 2, none⟩ = some (.bool true)) (OUT : Calls Tryd.prog 68 #[.pointer (some ⟨r, 0, none⟩), .int .i64 ((i : Int) + 1)] w fun e w' => e = .returned (.tuple #[]) ∧ J0 w') (JOIN : ∀ w1, J0 w1 → Calls Tryd.prog 69 #[.pointer (some ⟨r, 0, none⟩), .int .i64 i] w1 fun e w' => e = .returned (.tuple #[]) ∧ J1 w') (hij : i = j + 1) (C1 : ∀ w1, J1 w1 → ∃ g1 n1 c1, w1.cell? ⟨r, 0, none⟩ = some (.slice (some ⟨g1, 0, none⟩) n1 c1) ∧ i ≤ n1 ∧ w1.cell? ⟨g1, j * 3 + 2, none⟩ = some (.bool true)) (OUT2 : ∀ w1, J1 w1 → Calls Tryd.prog 68 #[.pointer (some ⟨r, 0, none⟩), .int .i64 j] w1 fun e w' => e = .returned (.tuple #[]) ∧ K1 w') (JOIN2 : ∀ w1, K1 w1 → Calls Tryd.prog 69 #[.pointer (some ⟨r, 0, none⟩), .int .i64 j] w1 fun e w' => e = .returned (.tuple #[]) ∧ J2 w') (PUT : ∀ w1, J2 w1 → Calls Tryd.prog 22 #[.pointer (some ⟨r, 0, none⟩), .int .i64 j] w1 fun e w' => e = .returned (.tuple #[]) ∧ J3 w') :
    Calls Tryd.prog 67 #[.pointer (some ⟨r, 0, none⟩), .int .i64 i] w fun e w' => e = .returned (.tuple #[]) ∧ J3 w' := by
  have i0 : (0 : Int) ≤ (i : Int) := by omega
  have i1 : (i : Int) + 1 < (n : Int) := by omega
  have i2 : (0 : Int) ≤ (i : Int) + 1 := by omega
  have p1 : (0 : Int) < (i : Int) := by omega
  have p2 : (i : Int) - 1 = (j : Int) := by omega
  have p3 : (0 : Int) ≤ (j : Int) := by omega
  replace OUT := Lib.hid OUT
  replace JOIN := Lib.hid JOIN
  replace C1 := Lib.hid C1
  replace OUT2 := Lib.hid OUT2
  replace JOIN2 := Lib.hid JOIN2
  replace PUT := Lib.hid PUT
  clear hij
  go_enter Tryd.func67, Tryd.ntmps67
  go_wp2_with (first
    | (go_at_call 68; (with_reducible refine OUT.out.mono ?_); rintro e w1 ⟨rfl, j0⟩)
    | (go_at_call 69; (with_reducible refine (JOIN.out _ j0).mono ?_); rintro e w2 ⟨rfl, j1⟩; obtain ⟨g1, n1, c1, q0, q1, q2⟩ := C1.out _ j1; have q3 : (j : Int) < (n1 : Int) := (by omega))
    | (go_at_call 68; (with_reducible refine (OUT2.out _ j1).mono ?_); rintro e w3 ⟨rfl, k1⟩)
    | (go_at_call 69; (with_reducible refine (JOIN2.out _ k1).mono ?_); rintro e w4 ⟨rfl, j2⟩)
    | (go_at_call 22; (with_reducible refine (PUT.out _ j2).mono ?_); rintro e w5 ⟨rfl, j3⟩))
  go_end0
  exact ⟨rfl, j3⟩
end
end Go.Proofs.YthlaoanfoimkfaaDoor
namespace Go.Proofs.YthlaoanfoimkfaaDoor
open Go.RowKit
set_option linter.unusedVariables false
set_option linter.all false
set_option maxRecDepth 100000
/-- What a call leaves of the document's heap. -/
def DS [HAdd Unit Unit Nat] (w : World) (r gB gM : Nat) (B : List Bk) (L : Nat → List Nat) (M : List UInt8) (w1 : World) : Prop := ∃ g1, Dr w1 r g1 gM B L M ∧ Only [r, gB] w w1 ∧ (g1 = gB ∨ w.heap.size ≤ g1)
section
variable {w w' w1 w2 : World} {r gB gM g1 g2 N : Nat} {B B' A C : List Bk} {b : Bk} {L L' : Nat → List Nat} {M M' : List UInt8} {S : List Nat}
variable [HAdd Unit Unit Nat]
theorem DS.refl (h : Dr w r gB gM B L M) : DS w r gB gM B L M w := ⟨gB, h, Only.refl _ _, .inl rfl⟩
theorem DS.next (o1 : Only [r, gB] w w1) (hg1 : g1 = gB ∨ w.heap.size ≤ g1) (o2 : Only [r, g1] w1 w2) (hd : Dr w2 r g2 gM B L M) (hg2 : g2 = g1 ∨ w1.heap.size ≤ g2) : DS w r gB gM B L M w2 := by
  refine ⟨g2, hd, o1.trans o2 (fun x hx => ?_), ?_⟩
  · simp at hx
    rcases hx with rfl | rfl
    · exact .inl (by simp)
    · rcases hg1 with e | e
      · exact .inl (by simp [e])
      · exact .inr e
  · have := o1.size
    omega
theorem DS.then (h : DS w r gB gM B L M w1) (k : ∀ g1, Dr w1 r g1 gM B L M → DS w1 r g1 gM B' L' M' w2) : DS w r gB gM B' L' M' w2 := by
  obtain ⟨g1, h1, h2, h3⟩ := h
  obtain ⟨g2, k1, k2, k3⟩ := k g1 h1
  exact DS.next h2 h3 k2 k1 k3
theorem Dr.kind {k : Nat} (H : Dr w r gB gM (A ++ b :: C) L M) (hk : (b.k == 1) = (k == 1)) : Dr w r gB gM (A ++ ⟨b.at', b.size, k⟩ :: C) L M := by
  obtain ⟨cs, A0, c, cB, cM, k1, k2, k3, k4, k5⟩ := H.ex
  obtain ⟨cs2, hb, hc⟩ := H.row
  refine ⟨⟨cs, A0, c, cB, cM, k1, k2, by simpa using k3, k4, k5⟩, ⟨cs2, hb, fun j x hx => ?_⟩, H.mem, H.xlt⟩
  by_cases hi : j = A.length
  · subst hi
    rw [mid_get] at hx
    cases hx
    have := hc A.length b (mid_get A C b)
    rw [hk] at this
    exact this
  · refine hc j x ?_
    by_cases hlt : j < A.length
    · rw [List.getElem?_append_left hlt] at hx ⊢; exact hx
    · rw [List.getElem?_append_right (by omega)] at hx ⊢
      obtain ⟨d, hd⟩ : ∃ d, j - A.length = d + 1 := ⟨j - A.length - 1, by omega⟩
      rw [hd] at hx ⊢
      simpa using hx
theorem rmL_len (L : Nat → List Nat) (c a d : Nat) : (rmL L c a d).length ≤ (L d).length := by
  unfold rmL
  split
  · next h => subst h; exact List.length_filter_le _ _
  · exact Nat.le_refl _
theorem insL_len (L : Nat → List Nat) (c a d : Nat) : (insL L c a d).length ≤ (L d).length + 1 := by
  unfold insL
  split
  · next h => subst h; simp
  · omega
/-- out, put, join, as states. -/
theorem ds_out {i : Nat} (hi : A.length = i) (h : DS w r gB gM (A ++ b :: C) L M w1) (hl : (A ++ b :: C).length ≤ 90000) (hs : 16 ≤ b.size ∧ b.size < 65536) (hll : ∀ c, (L c).length ≤ 50000) :
    Calls Tryd.prog 68 #[.pointer (some ⟨r, 0, none⟩), .int .i64 i] w1 fun e w' => e = .returned (.tuple #[]) ∧ DS w r gB gM (A ++ ⟨b.at', b.size, 2⟩ :: C) (rmL L (cls b.size) b.at') M w' := by
  subst hi
  obtain ⟨g1, h1, h2, h3⟩ := h
  refine (dout_any h1 (by omega) hs hll).mono ?_
  rintro e w2 ⟨rfl, o2, H2⟩
  exact ⟨rfl, DS.next h2 h3 o2 H2 (.inl rfl)⟩
theorem ds_put {i : Nat} (hi : A.length = i) (h : DS w r gB gM (A ++ b :: C) L M w1) (hl : (A ++ b :: C).length ≤ 90000) (hs : 16 ≤ b.size ∧ b.size < 65536) (hll : ∀ c, (L c).length ≤ 50000) :
    Calls Tryd.prog 22 #[.pointer (some ⟨r, 0, none⟩), .int .i64 i] w1 fun e w' => e = .returned (.tuple #[]) ∧ DS w r gB gM (A ++ ⟨b.at', b.size, 1⟩ :: C) (insL L (cls b.size) b.at') M w' := by
  subst hi
  obtain ⟨g1, h1, h2, h3⟩ := h
  refine (dput_any h1 (by omega) hs hll).mono ?_
  rintro e w2 ⟨rfl, o2, H2⟩
  exact ⟨rfl, DS.next h2 h3 o2 H2 (.inl rfl)⟩
theorem ds_join {i k : Nat} {c : Bk} (hi : A.length = i) (h : DS w r gB gM (A ++ b :: c :: C) L M w1) (hl : (A ++ b :: c :: C).length ≤ 90000) (hs : b.size < 65536) (hs2 : c.size < 65536) (hk : (b.k == 1) = (k == 1)) :
    Calls Tryd.prog 69 #[.pointer (some ⟨r, 0, none⟩), .int .i64 i] w1 fun e w' => e = .returned (.tuple #[]) ∧ DS w r gB gM (A ++ ⟨b.at', b.size + c.size, k⟩ :: C) L M w' := by
  subst hi
  obtain ⟨g1, h1, h2, h3⟩ := h
  refine (djoin_any h1 hl hs hs2 hk).mono ?_
  rintro e w2 ⟨rfl, o2, g2, hg2, H2⟩
  exact ⟨rfl, DS.next h2 h3 o2 H2 (.inr hg2)⟩
set_option maxHeartbeats 2000000 in
theorem dfree_any (H : Dr w r gB gM (A ++ b :: C) L M) (ht : Tile 112 (A ++ b :: C) N) (hN : N ≤ 65536) (hk : b.k ≠ 1) (hn : ∀ y ∈ A ++ C, y.k ≤ 1) (hl : (A ++ b :: C).length ≤ 80000) (hll : ∀ c, (L c).length ≤ 40000) :
    Calls Tryd.prog 67 #[.pointer (some ⟨r, 0, none⟩), .int .i64 A.length] w fun e w' => e = .returned (.tuple #[]) ∧ DS w r gB gM (freeS A b.at' b.size C L).1 (freeS A b.at' b.size C L).2 M w' := by
  have hpos := ht.pos
  have hkb : (b.k == 1) = ((2 : Nat) == 1) := by simp [hk]
  obtain ⟨cB, k0⟩ := H.cB
  have H2 := H.kind hkb
  rcases C with _ | ⟨c, q⟩
  · have hpe : b.at' + b.size = N := hpos.2.2.2.2.2.2.1
    have hz1 : b.size + b.at' ≤ N ∧ 16 ≤ b.size := by
      constructor <;> omega
    have hll1 : ∀ d, (L d).length ≤ 40000 := fun d => hll d
    rcases nil_or_end A with rfl | ⟨A', a, rfl⟩
    · have e0 : freeS ([] : List Bk) b.at' b.size [] L = (putS [] b.at' b.size [] L) := by
        have e1 : backS b.size [] L = (b.size, [], L) := rfl
        have e2 : frontS ([] : List Bk) b.at' b.size L = ([], b.at', b.size, L) := rfl
        unfold freeS
        rw [e1]
        simp only
        rw [e2]
      rw [e0]
      have hlx : (([] : List Bk) ++ b :: []).length ≤ 80000 := hl
      simp only [List.length_append, List.length_cons, List.length_nil] at hlx
      refine dfree_ee (r := r) (gB := gB) (i := ([] : List Bk).length) (j := 0) (n := (([] : List Bk) ++ b :: []).length) (cB := (([] : List Bk) ++ b :: []).length + cB) (J0 := fun _ => True) (J1 := DS w r gB gM (([] : List Bk) ++ ⟨b.at', b.size, 2⟩ :: []) L M) (J2 := DS w r gB gM ([] ++ ⟨b.at', b.size, 2⟩ :: []) L M) (J3 := DS w r gB gM (putS [] b.at' b.size [] L).1 (putS [] b.at' b.size [] L).2 M) (K1 := fun _ => True) (by omega) (by simp; try omega) k0
        (by simp; try omega)
        (DS.refl H2)
        rfl
        (fun w1 j1 => j1)
        (fun w1 j2 => ds_put (A := []) (b := ⟨b.at', b.size, 2⟩) (C := []) (L := L) rfl j2 (by simp; try omega) (by show 16 ≤ b.size ∧ b.size < 65536; omega) (fun d => by have := hll1 d; omega))
    · have hak : a.k = 0 ∨ a.k = 1 := by
        have := hn a (by simp)
        omega
      have hma := Tile.mem ht a (by simp)
      have haz : a.at' + a.size = b.at' := (ahead_at (p := b.at') (z := b.size) (k := b.k) (b := a) (A := A') (C := []) (by simpa using ht)).symm
      rcases hak with hak | hak
      · have e0 : freeS (A' ++ [a]) b.at' b.size [] L = (putS (A' ++ [a]) b.at' b.size [] L) := by
          have e1 : backS b.size [] L = (b.size, [], L) := rfl
          have e2 : frontS (A' ++ [a]) b.at' b.size L = ((A' ++ [a]), b.at', b.size, L) := by simp [frontS, hak]
          unfold freeS
          rw [e1]
          simp only
          rw [e2]
        rw [e0]
        have hlx : ((A' ++ [a]) ++ b :: []).length ≤ 80000 := hl
        simp only [List.length_append, List.length_cons, List.length_nil] at hlx
        refine dfree_eu (r := r) (gB := gB) (i := (A' ++ [a]).length) (j := A'.length) (n := ((A' ++ [a]) ++ b :: []).length) (cB := ((A' ++ [a]) ++ b :: []).length + cB) (J0 := fun _ => True) (J1 := DS w r gB gM ((A' ++ [a]) ++ ⟨b.at', b.size, 2⟩ :: []) L M) (J2 := DS w r gB gM ((A' ++ [a]) ++ ⟨b.at', b.size, 2⟩ :: []) L M) (J3 := DS w r gB gM (putS (A' ++ [a]) b.at' b.size [] L).1 (putS (A' ++ [a]) b.at' b.size [] L).2 M) (K1 := fun _ => True) (by omega) (by simp; try omega) k0
          (by simp; try omega)
          (DS.refl H2)
          (by simp)
          (fun w1 j1 => by
            obtain ⟨g1, h1, h2, h3⟩ := j1
            obtain ⟨cB1, q0⟩ := h1.cB
            have := (h1.bl (j := A'.length) (b := a) (by simp)).2.2
            rw [show (a.k == 1) = false by simp [hak]] at this
            exact ⟨g1, _, _, q0, by simp; try omega, this⟩)
          (fun w1 j1 => j1)
          (fun w1 j2 => ds_put (A := (A' ++ [a])) (b := ⟨b.at', b.size, 2⟩) (C := []) (L := L) rfl j2 (by simp; try omega) (by show 16 ≤ b.size ∧ b.size < 65536; omega) (fun d => by have := hll1 d; omega))
      · have e0 : freeS (A' ++ [a]) b.at' b.size [] L = (putS A' a.at' (a.size + b.size) [] (rmL L (cls a.size) a.at')) := by
          have e1 : backS b.size [] L = (b.size, [], L) := rfl
          have e2 : frontS (A' ++ [a]) b.at' b.size L = (A', a.at', (a.size + b.size), (rmL L (cls a.size) a.at')) := by simp [frontS, hak]
          unfold freeS
          rw [e1]
          simp only
          rw [e2]
        rw [e0]
        have hlx : ((A' ++ [a]) ++ b :: []).length ≤ 80000 := hl
        simp only [List.length_append, List.length_cons, List.length_nil] at hlx
        refine dfree_ef (r := r) (gB := gB) (i := (A' ++ [a]).length) (j := A'.length) (n := ((A' ++ [a]) ++ b :: []).length) (cB := ((A' ++ [a]) ++ b :: []).length + cB) (J0 := fun _ => True) (J1 := DS w r gB gM ((A' ++ [a]) ++ ⟨b.at', b.size, 2⟩ :: []) L M) (J2 := DS w r gB gM (A' ++ ⟨a.at', (a.size + b.size), 2⟩ :: []) (rmL L (cls a.size) a.at') M) (J3 := DS w r gB gM (putS A' a.at' (a.size + b.size) [] (rmL L (cls a.size) a.at')).1 (putS A' a.at' (a.size + b.size) [] (rmL L (cls a.size) a.at')).2 M) (K1 := DS w r gB gM (A' ++ ⟨a.at', a.size, 2⟩ :: ⟨b.at', b.size, 2⟩ :: []) (rmL L (cls a.size) a.at') M) (by omega) (by simp; try omega) k0
          (by simp; try omega)
          (DS.refl H2)
          (by simp)
          (fun w1 j1 => by
            obtain ⟨g1, h1, h2, h3⟩ := j1
            obtain ⟨cB1, q0⟩ := h1.cB
            have := (h1.bl (j := A'.length) (b := a) (by simp)).2.2
            rw [show (a.k == 1) = true by simp [hak]] at this
            exact ⟨g1, _, _, q0, by simp; try omega, this⟩)
          (fun w1 j1 => by
            have hd : DS w r gB gM (A' ++ a :: ⟨b.at', b.size, 2⟩ :: []) L M w1 := by simpa using j1
            exact ds_out rfl hd (by simp; try omega) (by omega) (fun d => by have := hll1 d; omega))
          (fun w1 k1 => ds_join (k := 2) (A := A') (b := ⟨a.at', a.size, 2⟩) (c := ⟨b.at', b.size, 2⟩) (C := []) rfl k1 (by simp; try omega) (by show a.size < 65536; omega) (by show b.size < 65536; omega) rfl)
          (fun w1 j2 => ds_put (A := A') (b := ⟨a.at', (a.size + b.size), 2⟩) (C := []) (L := (rmL L (cls a.size) a.at')) rfl j2 (by simp; try omega) (by show 16 ≤ (a.size + b.size) ∧ (a.size + b.size) < 65536; omega) (fun d => by have := hll1 d; have := rmL_len L (cls a.size) a.at' d; omega))
  · have hcm := hpos.2.2.2.2.2.2.2.2 c (by simp)
    have hca : c.at' = b.at' + b.size := hpos.2.2.2.2.2.2.1.1
    have hck : c.k = 0 ∨ c.k = 1 := by
      have := hn c (by simp)
      omega
    rcases hck with hck | hck
    · have hcb : True := trivial
      have hz1 : b.size + b.at' ≤ N ∧ 16 ≤ b.size := by
        constructor <;> omega
      have hll1 : ∀ d, (L d).length ≤ 40000 := fun d => hll d
      rcases nil_or_end A with rfl | ⟨A', a, rfl⟩
      · have e0 : freeS ([] : List Bk) b.at' b.size (c :: q) L = (putS [] b.at' b.size (c :: q) L) := by
          have e1 : backS b.size (c :: q) L = (b.size, (c :: q), L) := by simp [backS, hck]
          have e2 : frontS ([] : List Bk) b.at' b.size L = ([], b.at', b.size, L) := rfl
          unfold freeS
          rw [e1]
          simp only
          rw [e2]
        rw [e0]
        have hlx : (([] : List Bk) ++ b :: (c :: q)).length ≤ 80000 := hl
        simp only [List.length_append, List.length_cons, List.length_nil] at hlx
        refine dfree_ue (r := r) (gB := gB) (i := ([] : List Bk).length) (j := 0) (n := (([] : List Bk) ++ b :: (c :: q)).length) (cB := (([] : List Bk) ++ b :: (c :: q)).length + cB) (J0 := fun _ => True) (J1 := DS w r gB gM (([] : List Bk) ++ ⟨b.at', b.size, 2⟩ :: (c :: q)) L M) (J2 := DS w r gB gM ([] ++ ⟨b.at', b.size, 2⟩ :: (c :: q)) L M) (J3 := DS w r gB gM (putS [] b.at' b.size (c :: q) L).1 (putS [] b.at' b.size (c :: q) L).2 M) (K1 := fun _ => True) (by omega) (by simp; try omega) k0
          (by simp; try omega)
          (by have := (H.bl (j := ([] : List Bk).length + 1) (b := c) (by rw [List.getElem?_append_right (by omega)]; simp)).2.2; rw [show (c.k == 1) = false by simp [hck]] at this; exact this)
          (DS.refl H2)
          rfl
          (fun w1 j1 => j1)
          (fun w1 j2 => ds_put (A := []) (b := ⟨b.at', b.size, 2⟩) (C := (c :: q)) (L := L) rfl j2 (by simp; try omega) (by show 16 ≤ b.size ∧ b.size < 65536; omega) (fun d => by have := hll1 d; omega))
      · have hak : a.k = 0 ∨ a.k = 1 := by
          have := hn a (by simp)
          omega
        have hma := Tile.mem ht a (by simp)
        have haz : a.at' + a.size = b.at' := (ahead_at (p := b.at') (z := b.size) (k := b.k) (b := a) (A := A') (C := (c :: q)) (by simpa using ht)).symm
        rcases hak with hak | hak
        · have e0 : freeS (A' ++ [a]) b.at' b.size (c :: q) L = (putS (A' ++ [a]) b.at' b.size (c :: q) L) := by
            have e1 : backS b.size (c :: q) L = (b.size, (c :: q), L) := by simp [backS, hck]
            have e2 : frontS (A' ++ [a]) b.at' b.size L = ((A' ++ [a]), b.at', b.size, L) := by simp [frontS, hak]
            unfold freeS
            rw [e1]
            simp only
            rw [e2]
          rw [e0]
          have hlx : ((A' ++ [a]) ++ b :: (c :: q)).length ≤ 80000 := hl
          simp only [List.length_append, List.length_cons, List.length_nil] at hlx
          refine dfree_uu (r := r) (gB := gB) (i := (A' ++ [a]).length) (j := A'.length) (n := ((A' ++ [a]) ++ b :: (c :: q)).length) (cB := ((A' ++ [a]) ++ b :: (c :: q)).length + cB) (J0 := fun _ => True) (J1 := DS w r gB gM ((A' ++ [a]) ++ ⟨b.at', b.size, 2⟩ :: (c :: q)) L M) (J2 := DS w r gB gM ((A' ++ [a]) ++ ⟨b.at', b.size, 2⟩ :: (c :: q)) L M) (J3 := DS w r gB gM (putS (A' ++ [a]) b.at' b.size (c :: q) L).1 (putS (A' ++ [a]) b.at' b.size (c :: q) L).2 M) (K1 := fun _ => True) (by omega) (by simp; try omega) k0
            (by simp; try omega)
            (by have := (H.bl (j := (A' ++ [a]).length + 1) (b := c) (by rw [List.getElem?_append_right (by omega)]; simp)).2.2; rw [show (c.k == 1) = false by simp [hck]] at this; exact this)
            (DS.refl H2)
            (by simp)
            (fun w1 j1 => by
              obtain ⟨g1, h1, h2, h3⟩ := j1
              obtain ⟨cB1, q0⟩ := h1.cB
              have := (h1.bl (j := A'.length) (b := a) (by simp)).2.2
              rw [show (a.k == 1) = false by simp [hak]] at this
              exact ⟨g1, _, _, q0, by simp; try omega, this⟩)
            (fun w1 j1 => j1)
            (fun w1 j2 => ds_put (A := (A' ++ [a])) (b := ⟨b.at', b.size, 2⟩) (C := (c :: q)) (L := L) rfl j2 (by simp; try omega) (by show 16 ≤ b.size ∧ b.size < 65536; omega) (fun d => by have := hll1 d; omega))
        · have e0 : freeS (A' ++ [a]) b.at' b.size (c :: q) L = (putS A' a.at' (a.size + b.size) (c :: q) (rmL L (cls a.size) a.at')) := by
            have e1 : backS b.size (c :: q) L = (b.size, (c :: q), L) := by simp [backS, hck]
            have e2 : frontS (A' ++ [a]) b.at' b.size L = (A', a.at', (a.size + b.size), (rmL L (cls a.size) a.at')) := by simp [frontS, hak]
            unfold freeS
            rw [e1]
            simp only
            rw [e2]
          rw [e0]
          have hlx : ((A' ++ [a]) ++ b :: (c :: q)).length ≤ 80000 := hl
          simp only [List.length_append, List.length_cons, List.length_nil] at hlx
          refine dfree_uf (r := r) (gB := gB) (i := (A' ++ [a]).length) (j := A'.length) (n := ((A' ++ [a]) ++ b :: (c :: q)).length) (cB := ((A' ++ [a]) ++ b :: (c :: q)).length + cB) (J0 := fun _ => True) (J1 := DS w r gB gM ((A' ++ [a]) ++ ⟨b.at', b.size, 2⟩ :: (c :: q)) L M) (J2 := DS w r gB gM (A' ++ ⟨a.at', (a.size + b.size), 2⟩ :: (c :: q)) (rmL L (cls a.size) a.at') M) (J3 := DS w r gB gM (putS A' a.at' (a.size + b.size) (c :: q) (rmL L (cls a.size) a.at')).1 (putS A' a.at' (a.size + b.size) (c :: q) (rmL L (cls a.size) a.at')).2 M) (K1 := DS w r gB gM (A' ++ ⟨a.at', a.size, 2⟩ :: ⟨b.at', b.size, 2⟩ :: (c :: q)) (rmL L (cls a.size) a.at') M) (by omega) (by simp; try omega) k0
            (by simp; try omega)
            (by have := (H.bl (j := (A' ++ [a]).length + 1) (b := c) (by rw [List.getElem?_append_right (by omega)]; simp)).2.2; rw [show (c.k == 1) = false by simp [hck]] at this; exact this)
            (DS.refl H2)
            (by simp)
            (fun w1 j1 => by
              obtain ⟨g1, h1, h2, h3⟩ := j1
              obtain ⟨cB1, q0⟩ := h1.cB
              have := (h1.bl (j := A'.length) (b := a) (by simp)).2.2
              rw [show (a.k == 1) = true by simp [hak]] at this
              exact ⟨g1, _, _, q0, by simp; try omega, this⟩)
            (fun w1 j1 => by
              have hd : DS w r gB gM (A' ++ a :: ⟨b.at', b.size, 2⟩ :: (c :: q)) L M w1 := by simpa using j1
              exact ds_out rfl hd (by simp; try omega) (by omega) (fun d => by have := hll1 d; omega))
            (fun w1 k1 => ds_join (k := 2) (A := A') (b := ⟨a.at', a.size, 2⟩) (c := ⟨b.at', b.size, 2⟩) (C := (c :: q)) rfl k1 (by simp; try omega) (by show a.size < 65536; omega) (by show b.size < 65536; omega) rfl)
            (fun w1 j2 => ds_put (A := A') (b := ⟨a.at', (a.size + b.size), 2⟩) (C := (c :: q)) (L := (rmL L (cls a.size) a.at')) rfl j2 (by simp; try omega) (by show 16 ≤ (a.size + b.size) ∧ (a.size + b.size) < 65536; omega) (fun d => by have := hll1 d; have := rmL_len L (cls a.size) a.at' d; omega))
    · have hcb : True := trivial
      have hz1 : (b.size + c.size) + b.at' ≤ N ∧ 16 ≤ (b.size + c.size) := by
        constructor <;> omega
      have hll1 : ∀ d, ((rmL L (cls c.size) c.at') d).length ≤ 40000 := fun d => Nat.le_trans (rmL_len _ _ _ _) (hll d)
      rcases nil_or_end A with rfl | ⟨A', a, rfl⟩
      · have e0 : freeS ([] : List Bk) b.at' b.size (c :: q) L = (putS [] b.at' (b.size + c.size) q (rmL L (cls c.size) c.at')) := by
          have e1 : backS b.size (c :: q) L = ((b.size + c.size), q, (rmL L (cls c.size) c.at')) := by simp [backS, hck]
          have e2 : frontS ([] : List Bk) b.at' (b.size + c.size) (rmL L (cls c.size) c.at') = ([], b.at', (b.size + c.size), (rmL L (cls c.size) c.at')) := rfl
          unfold freeS
          rw [e1]
          simp only
          rw [e2]
        rw [e0]
        have hlx : (([] : List Bk) ++ b :: (c :: q)).length ≤ 80000 := hl
        simp only [List.length_append, List.length_cons, List.length_nil] at hlx
        refine dfree_fe (r := r) (gB := gB) (i := ([] : List Bk).length) (j := 0) (n := (([] : List Bk) ++ b :: (c :: q)).length) (cB := (([] : List Bk) ++ b :: (c :: q)).length + cB) (J0 := DS w r gB gM (([] : List Bk) ++ b :: ⟨c.at', c.size, 2⟩ :: q) (rmL L (cls c.size) c.at') M) (J1 := DS w r gB gM (([] : List Bk) ++ ⟨b.at', (b.size + c.size), 2⟩ :: q) (rmL L (cls c.size) c.at') M) (J2 := DS w r gB gM ([] ++ ⟨b.at', (b.size + c.size), 2⟩ :: q) (rmL L (cls c.size) c.at') M) (J3 := DS w r gB gM (putS [] b.at' (b.size + c.size) q (rmL L (cls c.size) c.at')).1 (putS [] b.at' (b.size + c.size) q (rmL L (cls c.size) c.at')).2 M) (K1 := fun _ => True) (by omega) (by simp; try omega) k0
          (by simp; try omega)
          (by have := (H.bl (j := ([] : List Bk).length + 1) (b := c) (by rw [List.getElem?_append_right (by omega)]; simp)).2.2; rw [show (c.k == 1) = true by simp [hck]] at this; exact this)
          (by
            have hd : DS w r gB gM ((([] : List Bk) ++ [b]) ++ c :: q) L M w := by simpa using DS.refl H
            have := ds_out (i := ([] : List Bk).length + 1) (by simp) hd (by simp; try omega) (by omega) (fun d => by have := hll d; omega)
            push_cast at this
            simpa using this)
          (fun w1 j0 => ds_join (k := 2) (A := ([] : List Bk)) (b := b) (c := ⟨c.at', c.size, 2⟩) (C := q) rfl j0 (by simp; try omega) (by omega) (by show c.size < 65536; omega) hkb)
          rfl
          (fun w1 j1 => j1)
          (fun w1 j2 => ds_put (A := []) (b := ⟨b.at', (b.size + c.size), 2⟩) (C := q) (L := (rmL L (cls c.size) c.at')) rfl j2 (by simp; try omega) (by show 16 ≤ (b.size + c.size) ∧ (b.size + c.size) < 65536; omega) (fun d => by have := hll1 d; omega))
      · have hak : a.k = 0 ∨ a.k = 1 := by
          have := hn a (by simp)
          omega
        have hma := Tile.mem ht a (by simp)
        have haz : a.at' + a.size = b.at' := (ahead_at (p := b.at') (z := b.size) (k := b.k) (b := a) (A := A') (C := (c :: q)) (by simpa using ht)).symm
        rcases hak with hak | hak
        · have e0 : freeS (A' ++ [a]) b.at' b.size (c :: q) L = (putS (A' ++ [a]) b.at' (b.size + c.size) q (rmL L (cls c.size) c.at')) := by
            have e1 : backS b.size (c :: q) L = ((b.size + c.size), q, (rmL L (cls c.size) c.at')) := by simp [backS, hck]
            have e2 : frontS (A' ++ [a]) b.at' (b.size + c.size) (rmL L (cls c.size) c.at') = ((A' ++ [a]), b.at', (b.size + c.size), (rmL L (cls c.size) c.at')) := by simp [frontS, hak]
            unfold freeS
            rw [e1]
            simp only
            rw [e2]
          rw [e0]
          have hlx : ((A' ++ [a]) ++ b :: (c :: q)).length ≤ 80000 := hl
          simp only [List.length_append, List.length_cons, List.length_nil] at hlx
          refine dfree_fu (r := r) (gB := gB) (i := (A' ++ [a]).length) (j := A'.length) (n := ((A' ++ [a]) ++ b :: (c :: q)).length) (cB := ((A' ++ [a]) ++ b :: (c :: q)).length + cB) (J0 := DS w r gB gM ((A' ++ [a]) ++ b :: ⟨c.at', c.size, 2⟩ :: q) (rmL L (cls c.size) c.at') M) (J1 := DS w r gB gM ((A' ++ [a]) ++ ⟨b.at', (b.size + c.size), 2⟩ :: q) (rmL L (cls c.size) c.at') M) (J2 := DS w r gB gM ((A' ++ [a]) ++ ⟨b.at', (b.size + c.size), 2⟩ :: q) (rmL L (cls c.size) c.at') M) (J3 := DS w r gB gM (putS (A' ++ [a]) b.at' (b.size + c.size) q (rmL L (cls c.size) c.at')).1 (putS (A' ++ [a]) b.at' (b.size + c.size) q (rmL L (cls c.size) c.at')).2 M) (K1 := fun _ => True) (by omega) (by simp; try omega) k0
            (by simp; try omega)
            (by have := (H.bl (j := (A' ++ [a]).length + 1) (b := c) (by rw [List.getElem?_append_right (by omega)]; simp)).2.2; rw [show (c.k == 1) = true by simp [hck]] at this; exact this)
            (by
              have hd : DS w r gB gM (((A' ++ [a]) ++ [b]) ++ c :: q) L M w := by simpa using DS.refl H
              have := ds_out (i := (A' ++ [a]).length + 1) (by simp) hd (by simp; try omega) (by omega) (fun d => by have := hll d; omega)
              push_cast at this
              simpa using this)
            (fun w1 j0 => ds_join (k := 2) (A := (A' ++ [a])) (b := b) (c := ⟨c.at', c.size, 2⟩) (C := q) rfl j0 (by simp; try omega) (by omega) (by show c.size < 65536; omega) hkb)
            (by simp)
            (fun w1 j1 => by
              obtain ⟨g1, h1, h2, h3⟩ := j1
              obtain ⟨cB1, q0⟩ := h1.cB
              have := (h1.bl (j := A'.length) (b := a) (by simp)).2.2
              rw [show (a.k == 1) = false by simp [hak]] at this
              exact ⟨g1, _, _, q0, by simp; try omega, this⟩)
            (fun w1 j1 => j1)
            (fun w1 j2 => ds_put (A := (A' ++ [a])) (b := ⟨b.at', (b.size + c.size), 2⟩) (C := q) (L := (rmL L (cls c.size) c.at')) rfl j2 (by simp; try omega) (by show 16 ≤ (b.size + c.size) ∧ (b.size + c.size) < 65536; omega) (fun d => by have := hll1 d; omega))
        · have e0 : freeS (A' ++ [a]) b.at' b.size (c :: q) L = (putS A' a.at' (a.size + (b.size + c.size)) q (rmL (rmL L (cls c.size) c.at') (cls a.size) a.at')) := by
            have e1 : backS b.size (c :: q) L = ((b.size + c.size), q, (rmL L (cls c.size) c.at')) := by simp [backS, hck]
            have e2 : frontS (A' ++ [a]) b.at' (b.size + c.size) (rmL L (cls c.size) c.at') = (A', a.at', (a.size + (b.size + c.size)), (rmL (rmL L (cls c.size) c.at') (cls a.size) a.at')) := by simp [frontS, hak]
            unfold freeS
            rw [e1]
            simp only
            rw [e2]
          rw [e0]
          have hlx : ((A' ++ [a]) ++ b :: (c :: q)).length ≤ 80000 := hl
          simp only [List.length_append, List.length_cons, List.length_nil] at hlx
          refine dfree_ff (r := r) (gB := gB) (i := (A' ++ [a]).length) (j := A'.length) (n := ((A' ++ [a]) ++ b :: (c :: q)).length) (cB := ((A' ++ [a]) ++ b :: (c :: q)).length + cB) (J0 := DS w r gB gM ((A' ++ [a]) ++ b :: ⟨c.at', c.size, 2⟩ :: q) (rmL L (cls c.size) c.at') M) (J1 := DS w r gB gM ((A' ++ [a]) ++ ⟨b.at', (b.size + c.size), 2⟩ :: q) (rmL L (cls c.size) c.at') M) (J2 := DS w r gB gM (A' ++ ⟨a.at', (a.size + (b.size + c.size)), 2⟩ :: q) (rmL (rmL L (cls c.size) c.at') (cls a.size) a.at') M) (J3 := DS w r gB gM (putS A' a.at' (a.size + (b.size + c.size)) q (rmL (rmL L (cls c.size) c.at') (cls a.size) a.at')).1 (putS A' a.at' (a.size + (b.size + c.size)) q (rmL (rmL L (cls c.size) c.at') (cls a.size) a.at')).2 M) (K1 := DS w r gB gM (A' ++ ⟨a.at', a.size, 2⟩ :: ⟨b.at', (b.size + c.size), 2⟩ :: q) (rmL (rmL L (cls c.size) c.at') (cls a.size) a.at') M) (by omega) (by simp; try omega) k0
            (by simp; try omega)
            (by have := (H.bl (j := (A' ++ [a]).length + 1) (b := c) (by rw [List.getElem?_append_right (by omega)]; simp)).2.2; rw [show (c.k == 1) = true by simp [hck]] at this; exact this)
            (by
              have hd : DS w r gB gM (((A' ++ [a]) ++ [b]) ++ c :: q) L M w := by simpa using DS.refl H
              have := ds_out (i := (A' ++ [a]).length + 1) (by simp) hd (by simp; try omega) (by omega) (fun d => by have := hll d; omega)
              push_cast at this
              simpa using this)
            (fun w1 j0 => ds_join (k := 2) (A := (A' ++ [a])) (b := b) (c := ⟨c.at', c.size, 2⟩) (C := q) rfl j0 (by simp; try omega) (by omega) (by show c.size < 65536; omega) hkb)
            (by simp)
            (fun w1 j1 => by
              obtain ⟨g1, h1, h2, h3⟩ := j1
              obtain ⟨cB1, q0⟩ := h1.cB
              have := (h1.bl (j := A'.length) (b := a) (by simp)).2.2
              rw [show (a.k == 1) = true by simp [hak]] at this
              exact ⟨g1, _, _, q0, by simp; try omega, this⟩)
            (fun w1 j1 => by
              have hd : DS w r gB gM (A' ++ a :: ⟨b.at', (b.size + c.size), 2⟩ :: q) (rmL L (cls c.size) c.at') M w1 := by simpa using j1
              exact ds_out rfl hd (by simp; try omega) (by omega) (fun d => by have := hll1 d; omega))
            (fun w1 k1 => ds_join (k := 2) (A := A') (b := ⟨a.at', a.size, 2⟩) (c := ⟨b.at', (b.size + c.size), 2⟩) (C := q) rfl k1 (by simp; try omega) (by show a.size < 65536; omega) (by show (b.size + c.size) < 65536; omega) rfl)
            (fun w1 j2 => ds_put (A := A') (b := ⟨a.at', (a.size + (b.size + c.size)), 2⟩) (C := q) (L := (rmL (rmL L (cls c.size) c.at') (cls a.size) a.at')) rfl j2 (by simp; try omega) (by show 16 ≤ (a.size + (b.size + c.size)) ∧ (a.size + (b.size + c.size)) < 65536; omega) (fun d => by have := hll1 d; have := rmL_len (rmL L (cls c.size) c.at') (cls a.size) a.at' d; omega))
end
end Go.Proofs.YthlaoanfoimkfaaDoor
