/- Tlsf, the document: Realloc, its walks. Condition: contracts of what it calls. -/
import Derived.Test.YthlaoanfoimkfaaDoorTdG
namespace Go.Proofs.YthlaoanfoimkfaaDoor
open Go.RowKit
set_option linter.unusedVariables false
set_option linter.all false
set_option maxRecDepth 100000
section
variable {w w' w1 w2 : World} {r gB gM g1 g2 N : Nat} {B B' A C : List Bk} {b : Bk} {L L' : Nat → List Nat} {M M' : List UInt8} {S : List Nat}
theorem dre_bad {x n : Int} (hn : ¬ (1 ≤ n ∧ n ≤ 65536)) :
    Calls Tryd.prog 31 #[.pointer (some ⟨r, 0, none⟩), .int .i64 x, .int .i64 n] w fun e w' => e = .returned (.tuple #[.int .i64 0, .int .i64 2]) ∧ w = w' := by
  have hM := dmay_any n w
  rw [decide_eq_false hn] at hM
  have HM := Lib.hid hM
  clear hM hn
  go_enter Tryd.func31, Tryd.ntmps31
  go_wp2_with (go_at_call 61; (with_reducible refine HM.out.mono ?_); rintro e w' ⟨rfl, rfl⟩)
  go_ret2
  exact ⟨by simp, rfl⟩
theorem dre_none {x : Int} {n : Nat} (h1 : 1 ≤ n) (h2 : n ≤ 65536) (PI : Calls Tryd.prog 66 #[.pointer (some ⟨r, 0, none⟩), .int .i64 x] w fun e w' => e = .returned (.int .i64 (-1)) ∧ w = w') :
    Calls Tryd.prog 31 #[.pointer (some ⟨r, 0, none⟩), .int .i64 x, .int .i64 n] w fun e w' => e = .returned (.tuple #[.int .i64 0, .int .i64 6]) ∧ w = w' := by
  have hM := dmay_any n w
  rw [decide_eq_true (by omega)] at hM
  have HM := Lib.hid hM
  replace PI := Lib.hid PI
  clear hM
  go_enter Tryd.func31, Tryd.ntmps31
  go_wp2_with (first
    | (go_at_call 61; (with_reducible refine HM.out.mono ?_); rintro e w' ⟨rfl, rfl⟩)
    | (go_at_call 66; (with_reducible refine PI.out.mono ?_); rintro e w' ⟨rfl, rfl⟩))
  go_ret2
  exact ⟨by simp, rfl⟩
set_option maxHeartbeats 4000000 in
theorem dre_bign {x n z i s m cB cs s8 d ml i2 : Nat} {J0 J1 J2 J3 : World → Prop} {JM : Nat → World → Prop} (hx : x < 70000) (h1n : 1 ≤ n) (h2n : n ≤ 65536) (hz : need n = z) (hzb : z < 70000) (hi : i < m) (hm : m < 100000) (hsb : s < 70000) (hcs : cs < 70000) (k0 : w.cell? ⟨r, 0, none⟩ = some (.slice (some ⟨gB, 0, none⟩) m cB)) (kz : w.cell? ⟨gB, i * 3 + 1, none⟩ = some (.int .i64 s)) (PI : Calls Tryd.prog 66 #[.pointer (some ⟨r, 0, none⟩), .int .i64 x] w fun e w' => e = .returned (.int .i64 i) ∧ w = w') (hlt : z ≤ s) (h1 : ∀ W, Only [] w W → J1 W) (SP : ∀ w1, J1 w1 → Calls Tryd.prog 64 #[.pointer (some ⟨r, 0, none⟩), .int .i64 i, .int .i64 z] w1 fun e w' => e = .returned (.bool false) ∧ J2 w') :
    Calls Tryd.prog 31 #[.pointer (some ⟨r, 0, none⟩), .int .i64 x, .int .i64 n] w fun e w' => e = .returned (.tuple #[.int .i64 x, .int .i64 0]) ∧ J2 w' := by
  have HM : Hid (∀ w, Calls Tryd.prog 61 #[.int .i64 n] w fun e w' => e = .returned (.bool true) ∧ w = w') := Lib.hid fun w => by have := dmay_any n w; rw [decide_eq_true (by omega)] at this; exact this
  have HN : Hid (∀ w, Calls Tryd.prog 63 #[.int .i64 n] w fun e w' => e = .returned (.int .i64 z) ∧ w = w') := Lib.hid fun w => by rw [← hz]; exact dneed_any w h2n
  have i0 : (0 : Int) ≤ (i : Int) := by omega
  have i1 : (i : Int) < (m : Int) := by omega
  have i9 : ¬ (i : Int) < 0 := by omega
  have d1 : decide ((s : Int) < (z : Int)) = false := decide_eq_false (by omega)
  have e1 : decide (s < z) = false := decide_eq_false (by omega)
  have l2 : (z : Int) ≤ (s : Int) := by omega
  replace PI := Lib.hid PI
  replace h1 := Lib.hid h1
  replace SP := Lib.hid SP
  clear hz hlt
  go_enter Tryd.func31, Tryd.ntmps31
  go_wp2_with (first
    | (go_at_call 61; (with_reducible refine (HM.out _).mono ?_); rintro e w' ⟨rfl, rfl⟩)
    | (go_at_call 66; (with_reducible refine PI.out.mono ?_); rintro e w' ⟨rfl, rfl⟩)
    | (go_at_call 63; (with_reducible refine (HN.out _).mono ?_); rintro e w' ⟨rfl, rfl⟩))
  go_quiet (fail)
  have oq := Lib.hid ((Only.refl [] w).drewN nq)
  have k0 := oq.out.keep0 k0
  have kz := oq.out.keep0 kz
  generalize w.drewN nq = W0 at oq k0 kz ⊢
  go_wp2_with (first
    | (go_at_call 64; (with_reducible refine (SP.out _ (h1.out _ oq.out)).mono ?_); rintro e w3 ⟨rfl, j2⟩))
  go_ret2
  exact ⟨by simp, j2⟩
set_option maxHeartbeats 4000000 in
theorem dre_bigy {x n z i s m cB cs s8 d ml i2 : Nat} {J0 J1 J2 J3 : World → Prop} {JM : Nat → World → Prop} (hx : x < 70000) (h1n : 1 ≤ n) (h2n : n ≤ 65536) (hz : need n = z) (hzb : z < 70000) (hi : i < m) (hm : m < 100000) (hsb : s < 70000) (hcs : cs < 70000) (k0 : w.cell? ⟨r, 0, none⟩ = some (.slice (some ⟨gB, 0, none⟩) m cB)) (kz : w.cell? ⟨gB, i * 3 + 1, none⟩ = some (.int .i64 s)) (PI : Calls Tryd.prog 66 #[.pointer (some ⟨r, 0, none⟩), .int .i64 x] w fun e w' => e = .returned (.int .i64 i) ∧ w = w') (hlt : z ≤ s) (h1 : ∀ W, Only [] w W → J1 W) (SP : ∀ w1, J1 w1 → Calls Tryd.prog 64 #[.pointer (some ⟨r, 0, none⟩), .int .i64 i, .int .i64 z] w1 fun e w' => e = .returned (.bool true) ∧ J2 w') (FR : ∀ w1, J2 w1 → Calls Tryd.prog 67 #[.pointer (some ⟨r, 0, none⟩), .int .i64 ((i : Int) + 1)] w1 fun e w' => e = .returned (.tuple #[]) ∧ J3 w') :
    Calls Tryd.prog 31 #[.pointer (some ⟨r, 0, none⟩), .int .i64 x, .int .i64 n] w fun e w' => e = .returned (.tuple #[.int .i64 x, .int .i64 0]) ∧ J3 w' := by
  have HM : Hid (∀ w, Calls Tryd.prog 61 #[.int .i64 n] w fun e w' => e = .returned (.bool true) ∧ w = w') := Lib.hid fun w => by have := dmay_any n w; rw [decide_eq_true (by omega)] at this; exact this
  have HN : Hid (∀ w, Calls Tryd.prog 63 #[.int .i64 n] w fun e w' => e = .returned (.int .i64 z) ∧ w = w') := Lib.hid fun w => by rw [← hz]; exact dneed_any w h2n
  have i0 : (0 : Int) ≤ (i : Int) := by omega
  have i1 : (i : Int) < (m : Int) := by omega
  have i9 : ¬ (i : Int) < 0 := by omega
  have d1 : decide ((s : Int) < (z : Int)) = false := decide_eq_false (by omega)
  have e1 : decide (s < z) = false := decide_eq_false (by omega)
  have l2 : (z : Int) ≤ (s : Int) := by omega
  replace PI := Lib.hid PI
  replace h1 := Lib.hid h1
  replace SP := Lib.hid SP
  replace FR := Lib.hid FR
  clear hz hlt
  go_enter Tryd.func31, Tryd.ntmps31
  go_wp2_with (first
    | (go_at_call 61; (with_reducible refine (HM.out _).mono ?_); rintro e w' ⟨rfl, rfl⟩)
    | (go_at_call 66; (with_reducible refine PI.out.mono ?_); rintro e w' ⟨rfl, rfl⟩)
    | (go_at_call 63; (with_reducible refine (HN.out _).mono ?_); rintro e w' ⟨rfl, rfl⟩))
  go_quiet (fail)
  have oq := Lib.hid ((Only.refl [] w).drewN nq)
  have k0 := oq.out.keep0 k0
  have kz := oq.out.keep0 kz
  generalize w.drewN nq = W0 at oq k0 kz ⊢
  go_wp2_with (first
    | (go_at_call 64; (with_reducible refine (SP.out _ (h1.out _ oq.out)).mono ?_); rintro e w3 ⟨rfl, j2⟩)
    | (go_at_call 67; (with_reducible refine (FR.out _ j2).mono ?_); rintro e w4 ⟨rfl, j3⟩))
  go_ret2
  exact ⟨by simp, j3⟩
set_option maxHeartbeats 4000000 in
theorem dre_grown {x n z i s m cB cs s8 d ml i2 : Nat} {J0 J1 J2 J3 : World → Prop} {JM : Nat → World → Prop} (hx : x < 70000) (h1n : 1 ≤ n) (h2n : n ≤ 65536) (hz : need n = z) (hzb : z < 70000) (hi : i < m) (hm : m < 100000) (hsb : s < 70000) (hcs : cs < 70000) (k0 : w.cell? ⟨r, 0, none⟩ = some (.slice (some ⟨gB, 0, none⟩) m cB)) (kz : w.cell? ⟨gB, i * 3 + 1, none⟩ = some (.int .i64 s)) (PI : Calls Tryd.prog 66 #[.pointer (some ⟨r, 0, none⟩), .int .i64 x] w fun e w' => e = .returned (.int .i64 i) ∧ w = w') (hlt : s < z) (him : i + 1 < m) (kc : w.cell? ⟨gB, (i + 1) * 3 + 2, none⟩ = some (.bool true)) (kd : w.cell? ⟨gB, (i + 1) * 3 + 1, none⟩ = some (.int .i64 cs)) (hsum : z ≤ s + cs) (OUT : ∀ W, Only [] w W → Calls Tryd.prog 68 #[.pointer (some ⟨r, 0, none⟩), .int .i64 ((i : Int) + 1)] W fun e w' => e = .returned (.tuple #[]) ∧ J0 w') (JOIN : ∀ w1, J0 w1 → Calls Tryd.prog 69 #[.pointer (some ⟨r, 0, none⟩), .int .i64 i] w1 fun e w' => e = .returned (.tuple #[]) ∧ J1 w') (AT : ∀ w1, J1 w1 → ∃ g1 n1 c1, w1.cell? ⟨r, 0, none⟩ = some (.slice (some ⟨g1, 0, none⟩) n1 c1) ∧ i < n1 ∧ w1.cell? ⟨g1, i * 3 + 1, none⟩ = some (.int .i64 (s + cs : Nat))) (SP : ∀ w1, J1 w1 → Calls Tryd.prog 64 #[.pointer (some ⟨r, 0, none⟩), .int .i64 i, .int .i64 z] w1 fun e w' => e = .returned (.bool false) ∧ J2 w') :
    Calls Tryd.prog 31 #[.pointer (some ⟨r, 0, none⟩), .int .i64 x, .int .i64 n] w fun e w' => e = .returned (.tuple #[.int .i64 x, .int .i64 0]) ∧ J2 w' := by
  have HM : Hid (∀ w, Calls Tryd.prog 61 #[.int .i64 n] w fun e w' => e = .returned (.bool true) ∧ w = w') := Lib.hid fun w => by have := dmay_any n w; rw [decide_eq_true (by omega)] at this; exact this
  have HN : Hid (∀ w, Calls Tryd.prog 63 #[.int .i64 n] w fun e w' => e = .returned (.int .i64 z) ∧ w = w') := Lib.hid fun w => by rw [← hz]; exact dneed_any w h2n
  have i0 : (0 : Int) ≤ (i : Int) := by omega
  have i1 : (i : Int) < (m : Int) := by omega
  have i9 : ¬ (i : Int) < 0 := by omega
  have d1 : decide ((s : Int) < (z : Int)) = true := decide_eq_true (by omega)
  have e1 : decide (s < z) = true := decide_eq_true (by omega)
  have d2 : decide ((i : Int) + 1 < (m : Int)) = true := decide_eq_true (by omega)
  have e2 : decide (i + 1 < m) = true := decide_eq_true (by omega)
  have i3 : (0 : Int) ≤ (i : Int) + 1 := by omega
  have i4 : (i : Int) + 1 < (m : Int) := by omega
  have d3 : decide ((z : Int) ≤ (s : Int) + (cs : Int)) = true := decide_eq_true (by omega)
  have e3 : decide (z ≤ s + cs) = true := decide_eq_true (by omega)
  have l2 : (z : Int) ≤ ((s + cs : Nat) : Int) := by omega
  replace PI := Lib.hid PI
  replace OUT := Lib.hid OUT
  replace JOIN := Lib.hid JOIN
  replace AT := Lib.hid AT
  replace SP := Lib.hid SP
  clear hz hlt him
  go_enter Tryd.func31, Tryd.ntmps31
  go_wp2_with (first
    | (go_at_call 61; (with_reducible refine (HM.out _).mono ?_); rintro e w' ⟨rfl, rfl⟩)
    | (go_at_call 66; (with_reducible refine PI.out.mono ?_); rintro e w' ⟨rfl, rfl⟩)
    | (go_at_call 63; (with_reducible refine (HN.out _).mono ?_); rintro e w' ⟨rfl, rfl⟩))
  go_quiet (fail)
  have oq := Lib.hid ((Only.refl [] w).drewN nq)
  have k0 := oq.out.keep0 k0
  have kz := oq.out.keep0 kz
  generalize w.drewN nq = W0 at oq k0 kz ⊢
  go_wp2_with (first
    | (go_at_call 68; (with_reducible refine (OUT.out _ oq.out).mono ?_); rintro e w1 ⟨rfl, j0⟩)
    | (go_at_call 69; (with_reducible refine (JOIN.out _ j0).mono ?_); rintro e w2 ⟨rfl, j1⟩; obtain ⟨g1, n1, c1, q0, q1, q2⟩ := AT.out _ j1; have q3 : (i : Int) < (n1 : Int) := (by omega))
    | (go_at_call 64; (with_reducible refine (SP.out _ j1).mono ?_); rintro e w3 ⟨rfl, j2⟩))
  go_ret2
  exact ⟨by simp, j2⟩
set_option maxHeartbeats 4000000 in
theorem dre_growy {x n z i s m cB cs s8 d ml i2 : Nat} {J0 J1 J2 J3 : World → Prop} {JM : Nat → World → Prop} (hx : x < 70000) (h1n : 1 ≤ n) (h2n : n ≤ 65536) (hz : need n = z) (hzb : z < 70000) (hi : i < m) (hm : m < 100000) (hsb : s < 70000) (hcs : cs < 70000) (k0 : w.cell? ⟨r, 0, none⟩ = some (.slice (some ⟨gB, 0, none⟩) m cB)) (kz : w.cell? ⟨gB, i * 3 + 1, none⟩ = some (.int .i64 s)) (PI : Calls Tryd.prog 66 #[.pointer (some ⟨r, 0, none⟩), .int .i64 x] w fun e w' => e = .returned (.int .i64 i) ∧ w = w') (hlt : s < z) (him : i + 1 < m) (kc : w.cell? ⟨gB, (i + 1) * 3 + 2, none⟩ = some (.bool true)) (kd : w.cell? ⟨gB, (i + 1) * 3 + 1, none⟩ = some (.int .i64 cs)) (hsum : z ≤ s + cs) (OUT : ∀ W, Only [] w W → Calls Tryd.prog 68 #[.pointer (some ⟨r, 0, none⟩), .int .i64 ((i : Int) + 1)] W fun e w' => e = .returned (.tuple #[]) ∧ J0 w') (JOIN : ∀ w1, J0 w1 → Calls Tryd.prog 69 #[.pointer (some ⟨r, 0, none⟩), .int .i64 i] w1 fun e w' => e = .returned (.tuple #[]) ∧ J1 w') (AT : ∀ w1, J1 w1 → ∃ g1 n1 c1, w1.cell? ⟨r, 0, none⟩ = some (.slice (some ⟨g1, 0, none⟩) n1 c1) ∧ i < n1 ∧ w1.cell? ⟨g1, i * 3 + 1, none⟩ = some (.int .i64 (s + cs : Nat))) (SP : ∀ w1, J1 w1 → Calls Tryd.prog 64 #[.pointer (some ⟨r, 0, none⟩), .int .i64 i, .int .i64 z] w1 fun e w' => e = .returned (.bool true) ∧ J2 w') (FR : ∀ w1, J2 w1 → Calls Tryd.prog 67 #[.pointer (some ⟨r, 0, none⟩), .int .i64 ((i : Int) + 1)] w1 fun e w' => e = .returned (.tuple #[]) ∧ J3 w') :
    Calls Tryd.prog 31 #[.pointer (some ⟨r, 0, none⟩), .int .i64 x, .int .i64 n] w fun e w' => e = .returned (.tuple #[.int .i64 x, .int .i64 0]) ∧ J3 w' := by
  have HM : Hid (∀ w, Calls Tryd.prog 61 #[.int .i64 n] w fun e w' => e = .returned (.bool true) ∧ w = w') := Lib.hid fun w => by have := dmay_any n w; rw [decide_eq_true (by omega)] at this; exact this
  have HN : Hid (∀ w, Calls Tryd.prog 63 #[.int .i64 n] w fun e w' => e = .returned (.int .i64 z) ∧ w = w') := Lib.hid fun w => by rw [← hz]; exact dneed_any w h2n
  have i0 : (0 : Int) ≤ (i : Int) := by omega
  have i1 : (i : Int) < (m : Int) := by omega
  have i9 : ¬ (i : Int) < 0 := by omega
  have d1 : decide ((s : Int) < (z : Int)) = true := decide_eq_true (by omega)
  have e1 : decide (s < z) = true := decide_eq_true (by omega)
  have d2 : decide ((i : Int) + 1 < (m : Int)) = true := decide_eq_true (by omega)
  have e2 : decide (i + 1 < m) = true := decide_eq_true (by omega)
  have i3 : (0 : Int) ≤ (i : Int) + 1 := by omega
  have i4 : (i : Int) + 1 < (m : Int) := by omega
  have d3 : decide ((z : Int) ≤ (s : Int) + (cs : Int)) = true := decide_eq_true (by omega)
  have e3 : decide (z ≤ s + cs) = true := decide_eq_true (by omega)
  have l2 : (z : Int) ≤ ((s + cs : Nat) : Int) := by omega
  replace PI := Lib.hid PI
  replace OUT := Lib.hid OUT
  replace JOIN := Lib.hid JOIN
  replace AT := Lib.hid AT
  replace SP := Lib.hid SP
  replace FR := Lib.hid FR
  clear hz hlt him
  go_enter Tryd.func31, Tryd.ntmps31
  go_wp2_with (first
    | (go_at_call 61; (with_reducible refine (HM.out _).mono ?_); rintro e w' ⟨rfl, rfl⟩)
    | (go_at_call 66; (with_reducible refine PI.out.mono ?_); rintro e w' ⟨rfl, rfl⟩)
    | (go_at_call 63; (with_reducible refine (HN.out _).mono ?_); rintro e w' ⟨rfl, rfl⟩))
  go_quiet (fail)
  have oq := Lib.hid ((Only.refl [] w).drewN nq)
  have k0 := oq.out.keep0 k0
  have kz := oq.out.keep0 kz
  generalize w.drewN nq = W0 at oq k0 kz ⊢
  go_wp2_with (first
    | (go_at_call 68; (with_reducible refine (OUT.out _ oq.out).mono ?_); rintro e w1 ⟨rfl, j0⟩)
    | (go_at_call 69; (with_reducible refine (JOIN.out _ j0).mono ?_); rintro e w2 ⟨rfl, j1⟩; obtain ⟨g1, n1, c1, q0, q1, q2⟩ := AT.out _ j1; have q3 : (i : Int) < (n1 : Int) := (by omega))
    | (go_at_call 64; (with_reducible refine (SP.out _ j1).mono ?_); rintro e w3 ⟨rfl, j2⟩)
    | (go_at_call 67; (with_reducible refine (FR.out _ j2).mono ?_); rintro e w4 ⟨rfl, j3⟩))
  go_ret2
  exact ⟨by simp, j3⟩
set_option maxHeartbeats 4000000 in
theorem dre_no_e {x n z i s m cB cs s8 d ml i2 : Nat} {J0 J1 J2 J3 : World → Prop} {JM : Nat → World → Prop} (hx : x < 70000) (h1n : 1 ≤ n) (h2n : n ≤ 65536) (hz : need n = z) (hzb : z < 70000) (hi : i < m) (hm : m < 100000) (hsb : s < 70000) (hcs : cs < 70000) (k0 : w.cell? ⟨r, 0, none⟩ = some (.slice (some ⟨gB, 0, none⟩) m cB)) (kz : w.cell? ⟨gB, i * 3 + 1, none⟩ = some (.int .i64 s)) (PI : Calls Tryd.prog 66 #[.pointer (some ⟨r, 0, none⟩), .int .i64 x] w fun e w' => e = .returned (.int .i64 i) ∧ w = w') (hlt : s < z) (him : m = i + 1) (AL : ∀ W, Only [] w W → Calls Tryd.prog 24 #[.pointer (some ⟨r, 0, none⟩), .int .i64 n] W fun e w' => e = .returned (.tuple #[.int .i64 0, .int .i64 5]) ∧ J1 w') :
    Calls Tryd.prog 31 #[.pointer (some ⟨r, 0, none⟩), .int .i64 x, .int .i64 n] w fun e w' => e = .returned (.tuple #[.int .i64 0, .int .i64 5]) ∧ J1 w' := by
  have HM : Hid (∀ w, Calls Tryd.prog 61 #[.int .i64 n] w fun e w' => e = .returned (.bool true) ∧ w = w') := Lib.hid fun w => by have := dmay_any n w; rw [decide_eq_true (by omega)] at this; exact this
  have HN : Hid (∀ w, Calls Tryd.prog 63 #[.int .i64 n] w fun e w' => e = .returned (.int .i64 z) ∧ w = w') := Lib.hid fun w => by rw [← hz]; exact dneed_any w h2n
  have i0 : (0 : Int) ≤ (i : Int) := by omega
  have i1 : (i : Int) < (m : Int) := by omega
  have i9 : ¬ (i : Int) < 0 := by omega
  have d1 : decide ((s : Int) < (z : Int)) = true := decide_eq_true (by omega)
  have e1 : decide (s < z) = true := decide_eq_true (by omega)
  have d2 : decide ((i : Int) + 1 < (m : Int)) = false := decide_eq_false (by omega)
  have e2 : decide (i + 1 < m) = false := decide_eq_false (by omega)
  have l2 : ¬ (z : Int) ≤ (s : Int) := by omega
  replace PI := Lib.hid PI
  replace AL := Lib.hid AL
  clear hz hlt him
  go_enter Tryd.func31, Tryd.ntmps31
  go_wp2_with (first
    | (go_at_call 61; (with_reducible refine (HM.out _).mono ?_); rintro e w' ⟨rfl, rfl⟩)
    | (go_at_call 66; (with_reducible refine PI.out.mono ?_); rintro e w' ⟨rfl, rfl⟩)
    | (go_at_call 63; (with_reducible refine (HN.out _).mono ?_); rintro e w' ⟨rfl, rfl⟩))
  go_quiet (fail)
  have oq := Lib.hid ((Only.refl [] w).drewN nq)
  have k0 := oq.out.keep0 k0
  have kz := oq.out.keep0 kz
  generalize w.drewN nq = W0 at oq k0 kz ⊢
  go_wp2_with (first
    | (go_at_call 24; (with_reducible refine (AL.out _ oq.out).mono ?_); rintro e w1 ⟨rfl, j1⟩))
  go_ret2
  exact ⟨by simp, j1⟩
set_option maxHeartbeats 4000000 in
theorem dre_no_u {x n z i s m cB cs s8 d ml i2 : Nat} {J0 J1 J2 J3 : World → Prop} {JM : Nat → World → Prop} (hx : x < 70000) (h1n : 1 ≤ n) (h2n : n ≤ 65536) (hz : need n = z) (hzb : z < 70000) (hi : i < m) (hm : m < 100000) (hsb : s < 70000) (hcs : cs < 70000) (k0 : w.cell? ⟨r, 0, none⟩ = some (.slice (some ⟨gB, 0, none⟩) m cB)) (kz : w.cell? ⟨gB, i * 3 + 1, none⟩ = some (.int .i64 s)) (PI : Calls Tryd.prog 66 #[.pointer (some ⟨r, 0, none⟩), .int .i64 x] w fun e w' => e = .returned (.int .i64 i) ∧ w = w') (hlt : s < z) (him : i + 1 < m) (kc : w.cell? ⟨gB, (i + 1) * 3 + 2, none⟩ = some (.bool false)) (kd : w.cell? ⟨gB, (i + 1) * 3 + 1, none⟩ = some (.int .i64 cs)) (AL : ∀ W, Only [] w W → Calls Tryd.prog 24 #[.pointer (some ⟨r, 0, none⟩), .int .i64 n] W fun e w' => e = .returned (.tuple #[.int .i64 0, .int .i64 5]) ∧ J1 w') :
    Calls Tryd.prog 31 #[.pointer (some ⟨r, 0, none⟩), .int .i64 x, .int .i64 n] w fun e w' => e = .returned (.tuple #[.int .i64 0, .int .i64 5]) ∧ J1 w' := by
  have HM : Hid (∀ w, Calls Tryd.prog 61 #[.int .i64 n] w fun e w' => e = .returned (.bool true) ∧ w = w') := Lib.hid fun w => by have := dmay_any n w; rw [decide_eq_true (by omega)] at this; exact this
  have HN : Hid (∀ w, Calls Tryd.prog 63 #[.int .i64 n] w fun e w' => e = .returned (.int .i64 z) ∧ w = w') := Lib.hid fun w => by rw [← hz]; exact dneed_any w h2n
  have i0 : (0 : Int) ≤ (i : Int) := by omega
  have i1 : (i : Int) < (m : Int) := by omega
  have i9 : ¬ (i : Int) < 0 := by omega
  have d1 : decide ((s : Int) < (z : Int)) = true := decide_eq_true (by omega)
  have e1 : decide (s < z) = true := decide_eq_true (by omega)
  have d2 : decide ((i : Int) + 1 < (m : Int)) = true := decide_eq_true (by omega)
  have e2 : decide (i + 1 < m) = true := decide_eq_true (by omega)
  have i3 : (0 : Int) ≤ (i : Int) + 1 := by omega
  have i4 : (i : Int) + 1 < (m : Int) := by omega
  have l2 : ¬ (z : Int) ≤ (s : Int) := by omega
  replace PI := Lib.hid PI
  replace AL := Lib.hid AL
  clear hz hlt him
  go_enter Tryd.func31, Tryd.ntmps31
  go_wp2_with (first
    | (go_at_call 61; (with_reducible refine (HM.out _).mono ?_); rintro e w' ⟨rfl, rfl⟩)
    | (go_at_call 66; (with_reducible refine PI.out.mono ?_); rintro e w' ⟨rfl, rfl⟩)
    | (go_at_call 63; (with_reducible refine (HN.out _).mono ?_); rintro e w' ⟨rfl, rfl⟩))
  go_quiet (fail)
  have oq := Lib.hid ((Only.refl [] w).drewN nq)
  have k0 := oq.out.keep0 k0
  have kz := oq.out.keep0 kz
  generalize w.drewN nq = W0 at oq k0 kz ⊢
  go_wp2_with (first
    | (go_at_call 24; (with_reducible refine (AL.out _ oq.out).mono ?_); rintro e w1 ⟨rfl, j1⟩))
  go_ret2
  exact ⟨by simp, j1⟩
set_option maxHeartbeats 4000000 in
theorem dre_no_f {x n z i s m cB cs s8 d ml i2 : Nat} {J0 J1 J2 J3 : World → Prop} {JM : Nat → World → Prop} (hx : x < 70000) (h1n : 1 ≤ n) (h2n : n ≤ 65536) (hz : need n = z) (hzb : z < 70000) (hi : i < m) (hm : m < 100000) (hsb : s < 70000) (hcs : cs < 70000) (k0 : w.cell? ⟨r, 0, none⟩ = some (.slice (some ⟨gB, 0, none⟩) m cB)) (kz : w.cell? ⟨gB, i * 3 + 1, none⟩ = some (.int .i64 s)) (PI : Calls Tryd.prog 66 #[.pointer (some ⟨r, 0, none⟩), .int .i64 x] w fun e w' => e = .returned (.int .i64 i) ∧ w = w') (hlt : s < z) (him : i + 1 < m) (kc : w.cell? ⟨gB, (i + 1) * 3 + 2, none⟩ = some (.bool true)) (kd : w.cell? ⟨gB, (i + 1) * 3 + 1, none⟩ = some (.int .i64 cs)) (hsum : s + cs < z) (AL : ∀ W, Only [] w W → Calls Tryd.prog 24 #[.pointer (some ⟨r, 0, none⟩), .int .i64 n] W fun e w' => e = .returned (.tuple #[.int .i64 0, .int .i64 5]) ∧ J1 w') :
    Calls Tryd.prog 31 #[.pointer (some ⟨r, 0, none⟩), .int .i64 x, .int .i64 n] w fun e w' => e = .returned (.tuple #[.int .i64 0, .int .i64 5]) ∧ J1 w' := by
  have HM : Hid (∀ w, Calls Tryd.prog 61 #[.int .i64 n] w fun e w' => e = .returned (.bool true) ∧ w = w') := Lib.hid fun w => by have := dmay_any n w; rw [decide_eq_true (by omega)] at this; exact this
  have HN : Hid (∀ w, Calls Tryd.prog 63 #[.int .i64 n] w fun e w' => e = .returned (.int .i64 z) ∧ w = w') := Lib.hid fun w => by rw [← hz]; exact dneed_any w h2n
  have i0 : (0 : Int) ≤ (i : Int) := by omega
  have i1 : (i : Int) < (m : Int) := by omega
  have i9 : ¬ (i : Int) < 0 := by omega
  have d1 : decide ((s : Int) < (z : Int)) = true := decide_eq_true (by omega)
  have e1 : decide (s < z) = true := decide_eq_true (by omega)
  have d2 : decide ((i : Int) + 1 < (m : Int)) = true := decide_eq_true (by omega)
  have e2 : decide (i + 1 < m) = true := decide_eq_true (by omega)
  have i3 : (0 : Int) ≤ (i : Int) + 1 := by omega
  have i4 : (i : Int) + 1 < (m : Int) := by omega
  have d3 : decide ((z : Int) ≤ (s : Int) + (cs : Int)) = false := decide_eq_false (by omega)
  have e3 : decide (z ≤ s + cs) = false := decide_eq_false (by omega)
  have l2 : ¬ (z : Int) ≤ (s : Int) := by omega
  replace PI := Lib.hid PI
  replace AL := Lib.hid AL
  clear hz hlt him
  go_enter Tryd.func31, Tryd.ntmps31
  go_wp2_with (first
    | (go_at_call 61; (with_reducible refine (HM.out _).mono ?_); rintro e w' ⟨rfl, rfl⟩)
    | (go_at_call 66; (with_reducible refine PI.out.mono ?_); rintro e w' ⟨rfl, rfl⟩)
    | (go_at_call 63; (with_reducible refine (HN.out _).mono ?_); rintro e w' ⟨rfl, rfl⟩))
  go_quiet (fail)
  have oq := Lib.hid ((Only.refl [] w).drewN nq)
  have k0 := oq.out.keep0 k0
  have kz := oq.out.keep0 kz
  generalize w.drewN nq = W0 at oq k0 kz ⊢
  go_wp2_with (first
    | (go_at_call 24; (with_reducible refine (AL.out _ oq.out).mono ?_); rintro e w1 ⟨rfl, j1⟩))
  go_ret2
  exact ⟨by simp, j1⟩
set_option maxHeartbeats 4000000 in
theorem dre_yes_e {x n z i s m cB cs s8 d ml i2 : Nat} {J0 J1 J2 J3 : World → Prop} {JM : Nat → World → Prop} (hx : x < 70000) (h1n : 1 ≤ n) (h2n : n ≤ 65536) (hz : need n = z) (hzb : z < 70000) (hi : i < m) (hm : m < 100000) (hsb : s < 70000) (hcs : cs < 70000) (k0 : w.cell? ⟨r, 0, none⟩ = some (.slice (some ⟨gB, 0, none⟩) m cB)) (kz : w.cell? ⟨gB, i * 3 + 1, none⟩ = some (.int .i64 s)) (PI : Calls Tryd.prog 66 #[.pointer (some ⟨r, 0, none⟩), .int .i64 x] w fun e w' => e = .returned (.int .i64 i) ∧ w = w') (hlt : s < z) (him : m = i + 1) (hs8 : s = s8 + 8) (hd : d < 70000) (hlen : d + s8 ≤ ml ∧ x + s8 ≤ ml ∧ ml ≤ 65536) (AL : ∀ W, Only [] w W → Calls Tryd.prog 24 #[.pointer (some ⟨r, 0, none⟩), .int .i64 n] W fun e w' => e = .returned (.tuple #[.int .i64 d, .int .i64 0]) ∧ JM 0 w') (MC : ∀ k W, JM k W → k < s8 → ∃ cM v u, W.cell? ⟨r, 33, none⟩ = some (.slice (some ⟨gM, 0, none⟩) ml cM) ∧ W.cell? ⟨gM, x + k, none⟩ = some (.int .u8 (v : Nat)) ∧ W.cell? ⟨gM, d + k, none⟩ = some (.int .u8 (u : Nat)) ∧ W.frozen? ⟨gM, d + k, none⟩ = false ∧ JM (k + 1) (W.drew.setCell ⟨gM, d + k, none⟩ (.int .u8 (v : Nat)))) (PI2 : ∀ W, JM s8 W → Calls Tryd.prog 66 #[.pointer (some ⟨r, 0, none⟩), .int .i64 x] W fun e w' => e = .returned (.int .i64 i2) ∧ W = w') (FR : ∀ W, JM s8 W → Calls Tryd.prog 67 #[.pointer (some ⟨r, 0, none⟩), .int .i64 i2] W fun e w' => e = .returned (.tuple #[]) ∧ J3 w') :
    Calls Tryd.prog 31 #[.pointer (some ⟨r, 0, none⟩), .int .i64 x, .int .i64 n] w fun e w' => e = .returned (.tuple #[.int .i64 d, .int .i64 0]) ∧ J3 w' := by
  have HM : Hid (∀ w, Calls Tryd.prog 61 #[.int .i64 n] w fun e w' => e = .returned (.bool true) ∧ w = w') := Lib.hid fun w => by have := dmay_any n w; rw [decide_eq_true (by omega)] at this; exact this
  have HN : Hid (∀ w, Calls Tryd.prog 63 #[.int .i64 n] w fun e w' => e = .returned (.int .i64 z) ∧ w = w') := Lib.hid fun w => by rw [← hz]; exact dneed_any w h2n
  have i0 : (0 : Int) ≤ (i : Int) := by omega
  have i1 : (i : Int) < (m : Int) := by omega
  have i9 : ¬ (i : Int) < 0 := by omega
  have d1 : decide ((s : Int) < (z : Int)) = true := decide_eq_true (by omega)
  have e1 : decide (s < z) = true := decide_eq_true (by omega)
  have d2 : decide ((i : Int) + 1 < (m : Int)) = false := decide_eq_false (by omega)
  have e2 : decide (i + 1 < m) = false := decide_eq_false (by omega)
  have l2 : ¬ (z : Int) ≤ (s : Int) := by omega
  replace PI := Lib.hid PI
  replace hs8 := Lib.hid hs8
  replace AL := Lib.hid AL
  replace MC := Lib.hid MC
  replace PI2 := Lib.hid PI2
  replace FR := Lib.hid FR
  clear hz hlt him
  go_enter Tryd.func31, Tryd.ntmps31
  go_wp2_with (first
    | (go_at_call 61; (with_reducible refine (HM.out _).mono ?_); rintro e w' ⟨rfl, rfl⟩)
    | (go_at_call 66; (with_reducible refine PI.out.mono ?_); rintro e w' ⟨rfl, rfl⟩)
    | (go_at_call 63; (with_reducible refine (HN.out _).mono ?_); rintro e w' ⟨rfl, rfl⟩))
  go_quiet (fail)
  have oq := Lib.hid ((Only.refl [] w).drewN nq)
  have k0 := oq.out.keep0 k0
  have kz := oq.out.keep0 kz
  generalize w.drewN nq = W0 at oq k0 kz ⊢
  have e8 : (s : Int) - 8 = (s8 : Int) := by have := hs8.out; omega
  go_wp2_with (first
    | (go_at_call 24; (with_reducible refine (AL.out _ oq.out).mono ?_); rintro e w1 ⟨rfl, j1⟩))
  go_loopw [13] (fun vk wr => ∃ k : Nat, k ≤ s8 ∧ vk = .int .i64 k ∧ JM k wr) (fun vk _ => s8 - (intOf vk).toNat)
  case atStart => exact ⟨0, Nat.zero_le _, rfl, j1⟩
  case round =>
    obtain ⟨k, hk, rfl, jk⟩ := hrel
    by_cases hlt : k < s8
    · obtain ⟨cM, v, u, q1, q2, q3, q4, q5⟩ := MC.out k wr jk hlt
      have a1 : (0 : Int) ≤ (x : Int) + (k : Int) := by omega
      have a2 : (x : Int) + (k : Int) < (ml : Int) := by omega
      have a3 : (0 : Int) ≤ (d : Int) + (k : Int) := by omega
      have a4 : (d : Int) + (k : Int) < (ml : Int) := by omega
      have HQ5 := Lib.hid q5
      clear q5
      go_wp2
      go_region
      all_goals go_wp2
      all_goals go_roundw
      all_goals first | exact ⟨k + 1, by omega, by go_num, HQ5.out⟩ | (simp [intOf]; done) | (simp [intOf]; omega)
    · obtain rfl : k = s8 := by omega
      go_wp2_with (first
        | (go_at_call 66; (with_reducible refine (PI2.out _ jk).mono ?_); rintro e w' ⟨rfl, rfl⟩)
        | (go_at_call 67; (with_reducible refine (FR.out _ jk).mono ?_); rintro e w5 ⟨rfl, j5⟩))
      go_ret2
      exact ⟨by simp, j5⟩
set_option maxHeartbeats 4000000 in
theorem dre_yes_u {x n z i s m cB cs s8 d ml i2 : Nat} {J0 J1 J2 J3 : World → Prop} {JM : Nat → World → Prop} (hx : x < 70000) (h1n : 1 ≤ n) (h2n : n ≤ 65536) (hz : need n = z) (hzb : z < 70000) (hi : i < m) (hm : m < 100000) (hsb : s < 70000) (hcs : cs < 70000) (k0 : w.cell? ⟨r, 0, none⟩ = some (.slice (some ⟨gB, 0, none⟩) m cB)) (kz : w.cell? ⟨gB, i * 3 + 1, none⟩ = some (.int .i64 s)) (PI : Calls Tryd.prog 66 #[.pointer (some ⟨r, 0, none⟩), .int .i64 x] w fun e w' => e = .returned (.int .i64 i) ∧ w = w') (hlt : s < z) (him : i + 1 < m) (kc : w.cell? ⟨gB, (i + 1) * 3 + 2, none⟩ = some (.bool false)) (kd : w.cell? ⟨gB, (i + 1) * 3 + 1, none⟩ = some (.int .i64 cs)) (hs8 : s = s8 + 8) (hd : d < 70000) (hlen : d + s8 ≤ ml ∧ x + s8 ≤ ml ∧ ml ≤ 65536) (AL : ∀ W, Only [] w W → Calls Tryd.prog 24 #[.pointer (some ⟨r, 0, none⟩), .int .i64 n] W fun e w' => e = .returned (.tuple #[.int .i64 d, .int .i64 0]) ∧ JM 0 w') (MC : ∀ k W, JM k W → k < s8 → ∃ cM v u, W.cell? ⟨r, 33, none⟩ = some (.slice (some ⟨gM, 0, none⟩) ml cM) ∧ W.cell? ⟨gM, x + k, none⟩ = some (.int .u8 (v : Nat)) ∧ W.cell? ⟨gM, d + k, none⟩ = some (.int .u8 (u : Nat)) ∧ W.frozen? ⟨gM, d + k, none⟩ = false ∧ JM (k + 1) (W.drew.setCell ⟨gM, d + k, none⟩ (.int .u8 (v : Nat)))) (PI2 : ∀ W, JM s8 W → Calls Tryd.prog 66 #[.pointer (some ⟨r, 0, none⟩), .int .i64 x] W fun e w' => e = .returned (.int .i64 i2) ∧ W = w') (FR : ∀ W, JM s8 W → Calls Tryd.prog 67 #[.pointer (some ⟨r, 0, none⟩), .int .i64 i2] W fun e w' => e = .returned (.tuple #[]) ∧ J3 w') :
    Calls Tryd.prog 31 #[.pointer (some ⟨r, 0, none⟩), .int .i64 x, .int .i64 n] w fun e w' => e = .returned (.tuple #[.int .i64 d, .int .i64 0]) ∧ J3 w' := by
  have HM : Hid (∀ w, Calls Tryd.prog 61 #[.int .i64 n] w fun e w' => e = .returned (.bool true) ∧ w = w') := Lib.hid fun w => by have := dmay_any n w; rw [decide_eq_true (by omega)] at this; exact this
  have HN : Hid (∀ w, Calls Tryd.prog 63 #[.int .i64 n] w fun e w' => e = .returned (.int .i64 z) ∧ w = w') := Lib.hid fun w => by rw [← hz]; exact dneed_any w h2n
  have i0 : (0 : Int) ≤ (i : Int) := by omega
  have i1 : (i : Int) < (m : Int) := by omega
  have i9 : ¬ (i : Int) < 0 := by omega
  have d1 : decide ((s : Int) < (z : Int)) = true := decide_eq_true (by omega)
  have e1 : decide (s < z) = true := decide_eq_true (by omega)
  have d2 : decide ((i : Int) + 1 < (m : Int)) = true := decide_eq_true (by omega)
  have e2 : decide (i + 1 < m) = true := decide_eq_true (by omega)
  have i3 : (0 : Int) ≤ (i : Int) + 1 := by omega
  have i4 : (i : Int) + 1 < (m : Int) := by omega
  have l2 : ¬ (z : Int) ≤ (s : Int) := by omega
  replace PI := Lib.hid PI
  replace hs8 := Lib.hid hs8
  replace AL := Lib.hid AL
  replace MC := Lib.hid MC
  replace PI2 := Lib.hid PI2
  replace FR := Lib.hid FR
  clear hz hlt him
  go_enter Tryd.func31, Tryd.ntmps31
  go_wp2_with (first
    | (go_at_call 61; (with_reducible refine (HM.out _).mono ?_); rintro e w' ⟨rfl, rfl⟩)
    | (go_at_call 66; (with_reducible refine PI.out.mono ?_); rintro e w' ⟨rfl, rfl⟩)
    | (go_at_call 63; (with_reducible refine (HN.out _).mono ?_); rintro e w' ⟨rfl, rfl⟩))
  go_quiet (fail)
  have oq := Lib.hid ((Only.refl [] w).drewN nq)
  have k0 := oq.out.keep0 k0
  have kz := oq.out.keep0 kz
  generalize w.drewN nq = W0 at oq k0 kz ⊢
  have e8 : (s : Int) - 8 = (s8 : Int) := by have := hs8.out; omega
  go_wp2_with (first
    | (go_at_call 24; (with_reducible refine (AL.out _ oq.out).mono ?_); rintro e w1 ⟨rfl, j1⟩))
  go_loopw [13] (fun vk wr => ∃ k : Nat, k ≤ s8 ∧ vk = .int .i64 k ∧ JM k wr) (fun vk _ => s8 - (intOf vk).toNat)
  case atStart => exact ⟨0, Nat.zero_le _, rfl, j1⟩
  case round =>
    obtain ⟨k, hk, rfl, jk⟩ := hrel
    by_cases hlt : k < s8
    · obtain ⟨cM, v, u, q1, q2, q3, q4, q5⟩ := MC.out k wr jk hlt
      have a1 : (0 : Int) ≤ (x : Int) + (k : Int) := by omega
      have a2 : (x : Int) + (k : Int) < (ml : Int) := by omega
      have a3 : (0 : Int) ≤ (d : Int) + (k : Int) := by omega
      have a4 : (d : Int) + (k : Int) < (ml : Int) := by omega
      have HQ5 := Lib.hid q5
      clear q5
      go_wp2
      go_region
      all_goals go_wp2
      all_goals go_roundw
      all_goals first | exact ⟨k + 1, by omega, by go_num, HQ5.out⟩ | (simp [intOf]; done) | (simp [intOf]; omega)
    · obtain rfl : k = s8 := by omega
      go_wp2_with (first
        | (go_at_call 66; (with_reducible refine (PI2.out _ jk).mono ?_); rintro e w' ⟨rfl, rfl⟩)
        | (go_at_call 67; (with_reducible refine (FR.out _ jk).mono ?_); rintro e w5 ⟨rfl, j5⟩))
      go_ret2
      exact ⟨by simp, j5⟩
set_option maxHeartbeats 4000000 in
theorem dre_yes_f {x n z i s m cB cs s8 d ml i2 : Nat} {J0 J1 J2 J3 : World → Prop} {JM : Nat → World → Prop} (hx : x < 70000) (h1n : 1 ≤ n) (h2n : n ≤ 65536) (hz : need n = z) (hzb : z < 70000) (hi : i < m) (hm : m < 100000) (hsb : s < 70000) (hcs : cs < 70000) (k0 : w.cell? ⟨r, 0, none⟩ = some (.slice (some ⟨gB, 0, none⟩) m cB)) (kz : w.cell? ⟨gB, i * 3 + 1, none⟩ = some (.int .i64 s)) (PI : Calls Tryd.prog 66 #[.pointer (some ⟨r, 0, none⟩), .int .i64 x] w fun e w' => e = .returned (.int .i64 i) ∧ w = w') (hlt : s < z) (him : i + 1 < m) (kc : w.cell? ⟨gB, (i + 1) * 3 + 2, none⟩ = some (.bool true)) (kd : w.cell? ⟨gB, (i + 1) * 3 + 1, none⟩ = some (.int .i64 cs)) (hsum : s + cs < z) (hs8 : s = s8 + 8) (hd : d < 70000) (hlen : d + s8 ≤ ml ∧ x + s8 ≤ ml ∧ ml ≤ 65536) (AL : ∀ W, Only [] w W → Calls Tryd.prog 24 #[.pointer (some ⟨r, 0, none⟩), .int .i64 n] W fun e w' => e = .returned (.tuple #[.int .i64 d, .int .i64 0]) ∧ JM 0 w') (MC : ∀ k W, JM k W → k < s8 → ∃ cM v u, W.cell? ⟨r, 33, none⟩ = some (.slice (some ⟨gM, 0, none⟩) ml cM) ∧ W.cell? ⟨gM, x + k, none⟩ = some (.int .u8 (v : Nat)) ∧ W.cell? ⟨gM, d + k, none⟩ = some (.int .u8 (u : Nat)) ∧ W.frozen? ⟨gM, d + k, none⟩ = false ∧ JM (k + 1) (W.drew.setCell ⟨gM, d + k, none⟩ (.int .u8 (v : Nat)))) (PI2 : ∀ W, JM s8 W → Calls Tryd.prog 66 #[.pointer (some ⟨r, 0, none⟩), .int .i64 x] W fun e w' => e = .returned (.int .i64 i2) ∧ W = w') (FR : ∀ W, JM s8 W → Calls Tryd.prog 67 #[.pointer (some ⟨r, 0, none⟩), .int .i64 i2] W fun e w' => e = .returned (.tuple #[]) ∧ J3 w') :
    Calls Tryd.prog 31 #[.pointer (some ⟨r, 0, none⟩), .int .i64 x, .int .i64 n] w fun e w' => e = .returned (.tuple #[.int .i64 d, .int .i64 0]) ∧ J3 w' := by
  have HM : Hid (∀ w, Calls Tryd.prog 61 #[.int .i64 n] w fun e w' => e = .returned (.bool true) ∧ w = w') := Lib.hid fun w => by have := dmay_any n w; rw [decide_eq_true (by omega)] at this; exact this
  have HN : Hid (∀ w, Calls Tryd.prog 63 #[.int .i64 n] w fun e w' => e = .returned (.int .i64 z) ∧ w = w') := Lib.hid fun w => by rw [← hz]; exact dneed_any w h2n
  have i0 : (0 : Int) ≤ (i : Int) := by omega
  have i1 : (i : Int) < (m : Int) := by omega
  have i9 : ¬ (i : Int) < 0 := by omega
  have d1 : decide ((s : Int) < (z : Int)) = true := decide_eq_true (by omega)
  have e1 : decide (s < z) = true := decide_eq_true (by omega)
  have d2 : decide ((i : Int) + 1 < (m : Int)) = true := decide_eq_true (by omega)
  have e2 : decide (i + 1 < m) = true := decide_eq_true (by omega)
  have i3 : (0 : Int) ≤ (i : Int) + 1 := by omega
  have i4 : (i : Int) + 1 < (m : Int) := by omega
  have d3 : decide ((z : Int) ≤ (s : Int) + (cs : Int)) = false := decide_eq_false (by omega)
  have e3 : decide (z ≤ s + cs) = false := decide_eq_false (by omega)
  have l2 : ¬ (z : Int) ≤ (s : Int) := by omega
  replace PI := Lib.hid PI
  replace hs8 := Lib.hid hs8
  replace AL := Lib.hid AL
  replace MC := Lib.hid MC
  replace PI2 := Lib.hid PI2
  replace FR := Lib.hid FR
  clear hz hlt him
  go_enter Tryd.func31, Tryd.ntmps31
  go_wp2_with (first
    | (go_at_call 61; (with_reducible refine (HM.out _).mono ?_); rintro e w' ⟨rfl, rfl⟩)
    | (go_at_call 66; (with_reducible refine PI.out.mono ?_); rintro e w' ⟨rfl, rfl⟩)
    | (go_at_call 63; (with_reducible refine (HN.out _).mono ?_); rintro e w' ⟨rfl, rfl⟩))
  go_quiet (fail)
  have oq := Lib.hid ((Only.refl [] w).drewN nq)
  have k0 := oq.out.keep0 k0
  have kz := oq.out.keep0 kz
  generalize w.drewN nq = W0 at oq k0 kz ⊢
  have e8 : (s : Int) - 8 = (s8 : Int) := by have := hs8.out; omega
  go_wp2_with (first
    | (go_at_call 24; (with_reducible refine (AL.out _ oq.out).mono ?_); rintro e w1 ⟨rfl, j1⟩))
  go_loopw [13] (fun vk wr => ∃ k : Nat, k ≤ s8 ∧ vk = .int .i64 k ∧ JM k wr) (fun vk _ => s8 - (intOf vk).toNat)
  case atStart => exact ⟨0, Nat.zero_le _, rfl, j1⟩
  case round =>
    obtain ⟨k, hk, rfl, jk⟩ := hrel
    by_cases hlt : k < s8
    · obtain ⟨cM, v, u, q1, q2, q3, q4, q5⟩ := MC.out k wr jk hlt
      have a1 : (0 : Int) ≤ (x : Int) + (k : Int) := by omega
      have a2 : (x : Int) + (k : Int) < (ml : Int) := by omega
      have a3 : (0 : Int) ≤ (d : Int) + (k : Int) := by omega
      have a4 : (d : Int) + (k : Int) < (ml : Int) := by omega
      have HQ5 := Lib.hid q5
      clear q5
      go_wp2
      go_region
      all_goals go_wp2
      all_goals go_roundw
      all_goals first | exact ⟨k + 1, by omega, by go_num, HQ5.out⟩ | (simp [intOf]; done) | (simp [intOf]; omega)
    · obtain rfl : k = s8 := by omega
      go_wp2_with (first
        | (go_at_call 66; (with_reducible refine (PI2.out _ jk).mono ?_); rintro e w' ⟨rfl, rfl⟩)
        | (go_at_call 67; (with_reducible refine (FR.out _ jk).mono ?_); rintro e w5 ⟨rfl, j5⟩))
      go_ret2
      exact ⟨by simp, j5⟩
end
end Go.Proofs.YthlaoanfoimkfaaDoor
