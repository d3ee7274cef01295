/- Tlsf: its Aligned. No condition but what each theorem says. -/
import Derived.Test.YthlaoanfoimkfaaDoorTdF
namespace Go.Proofs.YthlaoanfoimkfaaDoor
open Go.RowKit
set_option linter.unusedVariables false
set_option linter.all false
set_option maxRecDepth 100000
section
variable {w w' w1 w2 : World} {r gB gM g1 g2 N : Nat} {B B' A C : List Bk} {b : Bk} {L L' : Nat → List Nat} {M M' : List UInt8} {S : List Nat}
set_option maxHeartbeats 4000000 in
theorem dalig_zn {q k n z i y t : Nat} {J1 J2 J3 J4 J5 : World → Prop} (hk : 3 ≤ k ∧ k ≤ 12) (hq : q = 2 ^ k) (h1 : 1 ≤ n) (h2 : n ≤ 65536) (hz : need n = z) (hzb : z < 70000) (hi : i < 100000) (hp : y < 70000) (ht : tgt q y = t) (hza : t = y + 8)
    (F : Calls Tryd.prog 62 #[.pointer (some ⟨r, 0, none⟩), .int .i64 ((z : Int) + (q : Int) + 16)] w fun e w' => e = .returned (.int .i64 i) ∧ J1 w')
    (AT : ∀ w1, J1 w1 → ∃ g1 n1 c1, w1.cell? ⟨r, 0, none⟩ = some (.slice (some ⟨g1, 0, none⟩) n1 c1) ∧ i < n1 ∧ w1.cell? ⟨g1, i * 3, none⟩ = some (.int .i64 y))
    (SP : ∀ w1, J1 w1 → Calls Tryd.prog 64 #[.pointer (some ⟨r, 0, none⟩), .int .i64 (i : Int), .int .i64 z] w1 fun e w' => e = .returned (.bool false) ∧ J4 w') :
    Calls Tryd.prog 28 #[.pointer (some ⟨r, 0, none⟩), .int .i64 q, .int .i64 n] w fun e w' => e = .returned (.tuple #[.int .i64 t, .int .i64 0]) ∧ J4 w' := by
  have HM : Hid (∀ w, Calls Tryd.prog 61 #[.int .i64 n] w fun e w' => e = .returned (.bool true) ∧ w = w') := Lib.hid fun w => by have := dmay_any n w; rw [decide_eq_true (by omega)] at this; exact this
  have HN : Hid (∀ w, Calls Tryd.prog 63 #[.int .i64 n] w fun e w' => e = .returned (.int .i64 z) ∧ w = w') := Lib.hid fun w => by rw [← hz]; exact dneed_any w h2
  have hqb : q ≤ 2 ^ 12 := by rw [hq]; exact Nat.pow_le_pow_right (by omega) hk.2
  have hq0 : 0 < q := by rw [hq]; exact Nat.pos_of_ne_zero (by simp)
  have hend := tgt_end (q := q) (p := y) hq0
  rw [ht] at hend
  have HGO : Hid (∀ x, y + 8 ≤ x → x < t → x % q ≠ 0 ∨ (y + 8 < x ∧ x < y + 24)) := Lib.hid fun x a b => tgt_go hq0 a (by rw [ht]; exact b)
  have HQ := Lib.hid hq
  have htb : t < 100000 := by omega
  have htp : y + 8 ≤ t := hend.2.2.1
  have hmod : (t : Int) % (q : Int) = 0 := by
    have := hend.1
    have e : ((t % q : Nat) : Int) = 0 := by rw [this]; rfl
    push_cast at e
    exact e
  replace F := Lib.hid F
  replace AT := Lib.hid AT
  replace SP := Lib.hid SP
  have HZA := Lib.hid hza
  clear hq hz hend ht hza
  go_enter Tryd.func28, Tryd.ntmps28
  go_wp2
  go_loopw [8, 9] (fun vg vp wr => ∃ j p : Nat, 3 ≤ j ∧ j ≤ 13 ∧ p = 2 ^ j ∧ vp = .int .i64 p ∧ vg = .bool (decide (k < j)) ∧ w = wr) (fun _ vp _ => 8192 - (intOf vp).toNat)
  case atStart => exact ⟨3, 8, by omega, by omega, rfl, rfl, by rw [decide_eq_false (by omega)], rfl⟩
  case round =>
    obtain ⟨j, p, j1, j2, hp, rfl, rfl, rfl⟩ := hrel
    by_cases hj : j ≤ 12
    · have hpl : p ≤ 2 ^ 12 := by rw [hp]; exact Nat.pow_le_pow_right (by omega) hj
      have hp0 : 2 ^ 3 ≤ p := by rw [hp]; exact Nat.pow_le_pow_right (by omega) j1
      have hle : (p : Int) ≤ 4096 := by omega
      by_cases hkj : k < j
      · have hd : decide (k < j) = true := decide_eq_true hkj
        have HP := Lib.hid hp
        clear hp
        rw [hd]
        go_wp2
        go_roundw
        case rel => exact ⟨j + 1, p * 2, by omega, by omega, by rw [HP.out, Nat.pow_succ], by go_num, by rw [decide_eq_true (by omega : k < j + 1)], by first | rfl | trivial⟩
        case measure => first | (simp [intOf]; done) | (simp [intOf]; omega)
      · have hd : decide (k < j) = false := decide_eq_false hkj
        rw [hd]
        by_cases hjk : j = k
        · have heq : ((p : Int) == (q : Int)) = true := by rw [hp, HQ.out, hjk]; simp
          have HP := Lib.hid hp
          clear hp
          go_wp2
          go_roundw
          case rel => exact ⟨j + 1, p * 2, by omega, by omega, by rw [HP.out, Nat.pow_succ], by go_num, by rw [decide_eq_true (by omega : k < j + 1)], by first | rfl | trivial⟩
          case measure => first | (simp [intOf]; done) | (simp [intOf]; omega)
        · have heq : ((p : Int) == (q : Int)) = false := by
            have : p ≠ q := by rw [hp, HQ.out]; exact fun e => hjk (pow_inj2 e)
            simp; omega
          have HP := Lib.hid hp
          clear hp
          go_wp2
          go_roundw
          case rel => exact ⟨j + 1, p * 2, by omega, by omega, by rw [HP.out, Nat.pow_succ], by go_num, by rw [decide_eq_false (by omega : ¬ k < j + 1)], by first | rfl | trivial⟩
          case measure => first | (simp [intOf]; done) | (simp [intOf]; omega)
    · obtain rfl : j = 13 := by omega
      have hgt : ¬ (p : Int) ≤ 4096 := by rw [hp]; decide
      have hpb : p < 10000 := by rw [hp]; decide
      have hd : decide (k < 13) = true := decide_eq_true (by omega)
      rw [hd]
      clear hp
      have i0 : (0 : Int) ≤ (i : Int) := by omega
      have i9 : ¬ (i : Int) < 0 := by omega
      go_wp2_with (first
        | (go_at_call 61; (with_reducible refine (HM.out _).mono ?_); rintro e w' ⟨rfl, rfl⟩)
        | (go_at_call 63; (with_reducible refine (HN.out _).mono ?_); rintro e w' ⟨rfl, rfl⟩)
        | (go_at_call 62; (with_reducible refine F.out.mono ?_); rintro e w1 ⟨rfl, j1⟩; obtain ⟨g1, n1, c1, q0, q1, q2⟩ := AT.out _ j1; have q3 : (i : Int) < (n1 : Int) := (by omega)))
      clear i9
      go_loopw [11] (fun vx wr => ∃ x : Nat, y + 8 ≤ x ∧ x ≤ t ∧ vx = .int .i64 x ∧ w1 = wr) (fun vx _ => t - (intOf vx).toNat)
      case atStart => exact ⟨y + 8, Nat.le_refl _, htp, by go_num, rfl⟩
      case round =>
        obtain ⟨x, x1, x2, rfl, rfl⟩ := hrel
        by_cases hx : x < t
        · by_cases hm : x % q = 0
          · have hm2 : (x : Int) % (q : Int) = 0 := by
              have e : ((x % q : Nat) : Int) = 0 := by rw [hm]; rfl
              push_cast at e
              exact e
            have hgo := HGO.out x x1 hx
            have hg1 : (y : Int) + 8 < (x : Int) := by omega
            have hg2 : (x : Int) < (y : Int) + 24 := by omega
            clear hm hgo
            go_wp2
            go_roundw
            case rel => exact ⟨x + 1, by omega, by omega, by go_num, by first | rfl | trivial⟩
            case measure => first | (simp [intOf]; done) | (simp [intOf]; omega)
          · have hm2 : ¬ (x : Int) % (q : Int) = 0 := by
              have e : ((x % q : Nat) : Int) ≠ 0 := by omega
              push_cast at e
              exact e
            clear hm
            go_wp2
            go_roundw
            case rel => exact ⟨x + 1, by omega, by omega, by go_num, by first | rfl | trivial⟩
            case measure => first | (simp [intOf]; done) | (simp [intOf]; omega)
        · obtain rfl : x = t := by omega
          have hza := HZA.out
          have hg1 : ¬ (y : Int) + 8 < (x : Int) := by omega
          have ha1 : ¬ 0 < (x : Int) - 8 - (y : Int) := by omega
          clear hza HZA
          go_wp2_with (first
            | (go_at_call 63; (with_reducible refine (HN.out _).mono ?_); rintro e w' ⟨rfl, rfl⟩)
            | (go_at_call 64; (with_reducible refine (SP.out _ j1).mono ?_); rintro e w4 ⟨rfl, j4⟩))
          go_ret2
          exact ⟨by simp, j4⟩
set_option maxHeartbeats 4000000 in
theorem dalig_zy {q k n z i y t : Nat} {J1 J2 J3 J4 J5 : World → Prop} (hk : 3 ≤ k ∧ k ≤ 12) (hq : q = 2 ^ k) (h1 : 1 ≤ n) (h2 : n ≤ 65536) (hz : need n = z) (hzb : z < 70000) (hi : i < 100000) (hp : y < 70000) (ht : tgt q y = t) (hza : t = y + 8)
    (F : Calls Tryd.prog 62 #[.pointer (some ⟨r, 0, none⟩), .int .i64 ((z : Int) + (q : Int) + 16)] w fun e w' => e = .returned (.int .i64 i) ∧ J1 w')
    (AT : ∀ w1, J1 w1 → ∃ g1 n1 c1, w1.cell? ⟨r, 0, none⟩ = some (.slice (some ⟨g1, 0, none⟩) n1 c1) ∧ i < n1 ∧ w1.cell? ⟨g1, i * 3, none⟩ = some (.int .i64 y))
    (SP : ∀ w1, J1 w1 → Calls Tryd.prog 64 #[.pointer (some ⟨r, 0, none⟩), .int .i64 (i : Int), .int .i64 z] w1 fun e w' => e = .returned (.bool true) ∧ J4 w') (PUT : ∀ w1, J4 w1 → Calls Tryd.prog 22 #[.pointer (some ⟨r, 0, none⟩), .int .i64 ((i : Int) + 1)] w1 fun e w' => e = .returned (.tuple #[]) ∧ J5 w') :
    Calls Tryd.prog 28 #[.pointer (some ⟨r, 0, none⟩), .int .i64 q, .int .i64 n] w fun e w' => e = .returned (.tuple #[.int .i64 t, .int .i64 0]) ∧ J5 w' := by
  have HM : Hid (∀ w, Calls Tryd.prog 61 #[.int .i64 n] w fun e w' => e = .returned (.bool true) ∧ w = w') := Lib.hid fun w => by have := dmay_any n w; rw [decide_eq_true (by omega)] at this; exact this
  have HN : Hid (∀ w, Calls Tryd.prog 63 #[.int .i64 n] w fun e w' => e = .returned (.int .i64 z) ∧ w = w') := Lib.hid fun w => by rw [← hz]; exact dneed_any w h2
  have hqb : q ≤ 2 ^ 12 := by rw [hq]; exact Nat.pow_le_pow_right (by omega) hk.2
  have hq0 : 0 < q := by rw [hq]; exact Nat.pos_of_ne_zero (by simp)
  have hend := tgt_end (q := q) (p := y) hq0
  rw [ht] at hend
  have HGO : Hid (∀ x, y + 8 ≤ x → x < t → x % q ≠ 0 ∨ (y + 8 < x ∧ x < y + 24)) := Lib.hid fun x a b => tgt_go hq0 a (by rw [ht]; exact b)
  have HQ := Lib.hid hq
  have htb : t < 100000 := by omega
  have htp : y + 8 ≤ t := hend.2.2.1
  have hmod : (t : Int) % (q : Int) = 0 := by
    have := hend.1
    have e : ((t % q : Nat) : Int) = 0 := by rw [this]; rfl
    push_cast at e
    exact e
  replace F := Lib.hid F
  replace AT := Lib.hid AT
  replace SP := Lib.hid SP
  replace PUT := Lib.hid PUT
  have HZA := Lib.hid hza
  clear hq hz hend ht hza
  go_enter Tryd.func28, Tryd.ntmps28
  go_wp2
  go_loopw [8, 9] (fun vg vp wr => ∃ j p : Nat, 3 ≤ j ∧ j ≤ 13 ∧ p = 2 ^ j ∧ vp = .int .i64 p ∧ vg = .bool (decide (k < j)) ∧ w = wr) (fun _ vp _ => 8192 - (intOf vp).toNat)
  case atStart => exact ⟨3, 8, by omega, by omega, rfl, rfl, by rw [decide_eq_false (by omega)], rfl⟩
  case round =>
    obtain ⟨j, p, j1, j2, hp, rfl, rfl, rfl⟩ := hrel
    by_cases hj : j ≤ 12
    · have hpl : p ≤ 2 ^ 12 := by rw [hp]; exact Nat.pow_le_pow_right (by omega) hj
      have hp0 : 2 ^ 3 ≤ p := by rw [hp]; exact Nat.pow_le_pow_right (by omega) j1
      have hle : (p : Int) ≤ 4096 := by omega
      by_cases hkj : k < j
      · have hd : decide (k < j) = true := decide_eq_true hkj
        have HP := Lib.hid hp
        clear hp
        rw [hd]
        go_wp2
        go_roundw
        case rel => exact ⟨j + 1, p * 2, by omega, by omega, by rw [HP.out, Nat.pow_succ], by go_num, by rw [decide_eq_true (by omega : k < j + 1)], by first | rfl | trivial⟩
        case measure => first | (simp [intOf]; done) | (simp [intOf]; omega)
      · have hd : decide (k < j) = false := decide_eq_false hkj
        rw [hd]
        by_cases hjk : j = k
        · have heq : ((p : Int) == (q : Int)) = true := by rw [hp, HQ.out, hjk]; simp
          have HP := Lib.hid hp
          clear hp
          go_wp2
          go_roundw
          case rel => exact ⟨j + 1, p * 2, by omega, by omega, by rw [HP.out, Nat.pow_succ], by go_num, by rw [decide_eq_true (by omega : k < j + 1)], by first | rfl | trivial⟩
          case measure => first | (simp [intOf]; done) | (simp [intOf]; omega)
        · have heq : ((p : Int) == (q : Int)) = false := by
            have : p ≠ q := by rw [hp, HQ.out]; exact fun e => hjk (pow_inj2 e)
            simp; omega
          have HP := Lib.hid hp
          clear hp
          go_wp2
          go_roundw
          case rel => exact ⟨j + 1, p * 2, by omega, by omega, by rw [HP.out, Nat.pow_succ], by go_num, by rw [decide_eq_false (by omega : ¬ k < j + 1)], by first | rfl | trivial⟩
          case measure => first | (simp [intOf]; done) | (simp [intOf]; omega)
    · obtain rfl : j = 13 := by omega
      have hgt : ¬ (p : Int) ≤ 4096 := by rw [hp]; decide
      have hpb : p < 10000 := by rw [hp]; decide
      have hd : decide (k < 13) = true := decide_eq_true (by omega)
      rw [hd]
      clear hp
      have i0 : (0 : Int) ≤ (i : Int) := by omega
      have i9 : ¬ (i : Int) < 0 := by omega
      go_wp2_with (first
        | (go_at_call 61; (with_reducible refine (HM.out _).mono ?_); rintro e w' ⟨rfl, rfl⟩)
        | (go_at_call 63; (with_reducible refine (HN.out _).mono ?_); rintro e w' ⟨rfl, rfl⟩)
        | (go_at_call 62; (with_reducible refine F.out.mono ?_); rintro e w1 ⟨rfl, j1⟩; obtain ⟨g1, n1, c1, q0, q1, q2⟩ := AT.out _ j1; have q3 : (i : Int) < (n1 : Int) := (by omega)))
      clear i9
      go_loopw [11] (fun vx wr => ∃ x : Nat, y + 8 ≤ x ∧ x ≤ t ∧ vx = .int .i64 x ∧ w1 = wr) (fun vx _ => t - (intOf vx).toNat)
      case atStart => exact ⟨y + 8, Nat.le_refl _, htp, by go_num, rfl⟩
      case round =>
        obtain ⟨x, x1, x2, rfl, rfl⟩ := hrel
        by_cases hx : x < t
        · by_cases hm : x % q = 0
          · have hm2 : (x : Int) % (q : Int) = 0 := by
              have e : ((x % q : Nat) : Int) = 0 := by rw [hm]; rfl
              push_cast at e
              exact e
            have hgo := HGO.out x x1 hx
            have hg1 : (y : Int) + 8 < (x : Int) := by omega
            have hg2 : (x : Int) < (y : Int) + 24 := by omega
            clear hm hgo
            go_wp2
            go_roundw
            case rel => exact ⟨x + 1, by omega, by omega, by go_num, by first | rfl | trivial⟩
            case measure => first | (simp [intOf]; done) | (simp [intOf]; omega)
          · have hm2 : ¬ (x : Int) % (q : Int) = 0 := by
              have e : ((x % q : Nat) : Int) ≠ 0 := by omega
              push_cast at e
              exact e
            clear hm
            go_wp2
            go_roundw
            case rel => exact ⟨x + 1, by omega, by omega, by go_num, by first | rfl | trivial⟩
            case measure => first | (simp [intOf]; done) | (simp [intOf]; omega)
        · obtain rfl : x = t := by omega
          have hza := HZA.out
          have hg1 : ¬ (y : Int) + 8 < (x : Int) := by omega
          have ha1 : ¬ 0 < (x : Int) - 8 - (y : Int) := by omega
          clear hza HZA
          go_wp2_with (first
            | (go_at_call 63; (with_reducible refine (HN.out _).mono ?_); rintro e w' ⟨rfl, rfl⟩)
            | (go_at_call 64; (with_reducible refine (SP.out _ j1).mono ?_); rintro e w4 ⟨rfl, j4⟩)
            | (go_at_call 22; (with_reducible refine (PUT.out _ j4).mono ?_); rintro e w5 ⟨rfl, j5⟩))
          go_ret2
          exact ⟨by simp, j5⟩
set_option maxHeartbeats 4000000 in
theorem dalig_mn {q k n z i y t : Nat} {J1 J2 J3 J4 J5 : World → Prop} (hk : 3 ≤ k ∧ k ≤ 12) (hq : q = 2 ^ k) (h1 : 1 ≤ n) (h2 : n ≤ 65536) (hz : need n = z) (hzb : z < 70000) (hi : i < 100000) (hp : y < 70000) (ht : tgt q y = t) (hza : y + 24 ≤ t)
    (F : Calls Tryd.prog 62 #[.pointer (some ⟨r, 0, none⟩), .int .i64 ((z : Int) + (q : Int) + 16)] w fun e w' => e = .returned (.int .i64 i) ∧ J1 w')
    (AT : ∀ w1, J1 w1 → ∃ g1 n1 c1, w1.cell? ⟨r, 0, none⟩ = some (.slice (some ⟨g1, 0, none⟩) n1 c1) ∧ i < n1 ∧ w1.cell? ⟨g1, i * 3, none⟩ = some (.int .i64 y))
    (SP0 : ∀ w1, J1 w1 → Calls Tryd.prog 64 #[.pointer (some ⟨r, 0, none⟩), .int .i64 i, .int .i64 ((t : Int) - 8 - (y : Int))] w1 fun e w' => e = .returned (.bool true) ∧ J2 w') (PUT0 : ∀ w1, J2 w1 → Calls Tryd.prog 22 #[.pointer (some ⟨r, 0, none⟩), .int .i64 i] w1 fun e w' => e = .returned (.tuple #[]) ∧ J3 w') (SP : ∀ w1, J3 w1 → Calls Tryd.prog 64 #[.pointer (some ⟨r, 0, none⟩), .int .i64 ((i : Int) + 1), .int .i64 z] w1 fun e w' => e = .returned (.bool false) ∧ J4 w') :
    Calls Tryd.prog 28 #[.pointer (some ⟨r, 0, none⟩), .int .i64 q, .int .i64 n] w fun e w' => e = .returned (.tuple #[.int .i64 t, .int .i64 0]) ∧ J4 w' := by
  have HM : Hid (∀ w, Calls Tryd.prog 61 #[.int .i64 n] w fun e w' => e = .returned (.bool true) ∧ w = w') := Lib.hid fun w => by have := dmay_any n w; rw [decide_eq_true (by omega)] at this; exact this
  have HN : Hid (∀ w, Calls Tryd.prog 63 #[.int .i64 n] w fun e w' => e = .returned (.int .i64 z) ∧ w = w') := Lib.hid fun w => by rw [← hz]; exact dneed_any w h2
  have hqb : q ≤ 2 ^ 12 := by rw [hq]; exact Nat.pow_le_pow_right (by omega) hk.2
  have hq0 : 0 < q := by rw [hq]; exact Nat.pos_of_ne_zero (by simp)
  have hend := tgt_end (q := q) (p := y) hq0
  rw [ht] at hend
  have HGO : Hid (∀ x, y + 8 ≤ x → x < t → x % q ≠ 0 ∨ (y + 8 < x ∧ x < y + 24)) := Lib.hid fun x a b => tgt_go hq0 a (by rw [ht]; exact b)
  have HQ := Lib.hid hq
  have htb : t < 100000 := by omega
  have htp : y + 8 ≤ t := hend.2.2.1
  have hmod : (t : Int) % (q : Int) = 0 := by
    have := hend.1
    have e : ((t % q : Nat) : Int) = 0 := by rw [this]; rfl
    push_cast at e
    exact e
  replace F := Lib.hid F
  replace AT := Lib.hid AT
  replace SP0 := Lib.hid SP0
  replace PUT0 := Lib.hid PUT0
  replace SP := Lib.hid SP
  have HZA := Lib.hid hza
  clear hq hz hend ht hza
  go_enter Tryd.func28, Tryd.ntmps28
  go_wp2
  go_loopw [8, 9] (fun vg vp wr => ∃ j p : Nat, 3 ≤ j ∧ j ≤ 13 ∧ p = 2 ^ j ∧ vp = .int .i64 p ∧ vg = .bool (decide (k < j)) ∧ w = wr) (fun _ vp _ => 8192 - (intOf vp).toNat)
  case atStart => exact ⟨3, 8, by omega, by omega, rfl, rfl, by rw [decide_eq_false (by omega)], rfl⟩
  case round =>
    obtain ⟨j, p, j1, j2, hp, rfl, rfl, rfl⟩ := hrel
    by_cases hj : j ≤ 12
    · have hpl : p ≤ 2 ^ 12 := by rw [hp]; exact Nat.pow_le_pow_right (by omega) hj
      have hp0 : 2 ^ 3 ≤ p := by rw [hp]; exact Nat.pow_le_pow_right (by omega) j1
      have hle : (p : Int) ≤ 4096 := by omega
      by_cases hkj : k < j
      · have hd : decide (k < j) = true := decide_eq_true hkj
        have HP := Lib.hid hp
        clear hp
        rw [hd]
        go_wp2
        go_roundw
        case rel => exact ⟨j + 1, p * 2, by omega, by omega, by rw [HP.out, Nat.pow_succ], by go_num, by rw [decide_eq_true (by omega : k < j + 1)], by first | rfl | trivial⟩
        case measure => first | (simp [intOf]; done) | (simp [intOf]; omega)
      · have hd : decide (k < j) = false := decide_eq_false hkj
        rw [hd]
        by_cases hjk : j = k
        · have heq : ((p : Int) == (q : Int)) = true := by rw [hp, HQ.out, hjk]; simp
          have HP := Lib.hid hp
          clear hp
          go_wp2
          go_roundw
          case rel => exact ⟨j + 1, p * 2, by omega, by omega, by rw [HP.out, Nat.pow_succ], by go_num, by rw [decide_eq_true (by omega : k < j + 1)], by first | rfl | trivial⟩
          case measure => first | (simp [intOf]; done) | (simp [intOf]; omega)
        · have heq : ((p : Int) == (q : Int)) = false := by
            have : p ≠ q := by rw [hp, HQ.out]; exact fun e => hjk (pow_inj2 e)
            simp; omega
          have HP := Lib.hid hp
          clear hp
          go_wp2
          go_roundw
          case rel => exact ⟨j + 1, p * 2, by omega, by omega, by rw [HP.out, Nat.pow_succ], by go_num, by rw [decide_eq_false (by omega : ¬ k < j + 1)], by first | rfl | trivial⟩
          case measure => first | (simp [intOf]; done) | (simp [intOf]; omega)
    · obtain rfl : j = 13 := by omega
      have hgt : ¬ (p : Int) ≤ 4096 := by rw [hp]; decide
      have hpb : p < 10000 := by rw [hp]; decide
      have hd : decide (k < 13) = true := decide_eq_true (by omega)
      rw [hd]
      clear hp
      have i0 : (0 : Int) ≤ (i : Int) := by omega
      have i9 : ¬ (i : Int) < 0 := by omega
      go_wp2_with (first
        | (go_at_call 61; (with_reducible refine (HM.out _).mono ?_); rintro e w' ⟨rfl, rfl⟩)
        | (go_at_call 63; (with_reducible refine (HN.out _).mono ?_); rintro e w' ⟨rfl, rfl⟩)
        | (go_at_call 62; (with_reducible refine F.out.mono ?_); rintro e w1 ⟨rfl, j1⟩; obtain ⟨g1, n1, c1, q0, q1, q2⟩ := AT.out _ j1; have q3 : (i : Int) < (n1 : Int) := (by omega)))
      clear i9
      go_loopw [11] (fun vx wr => ∃ x : Nat, y + 8 ≤ x ∧ x ≤ t ∧ vx = .int .i64 x ∧ w1 = wr) (fun vx _ => t - (intOf vx).toNat)
      case atStart => exact ⟨y + 8, Nat.le_refl _, htp, by go_num, rfl⟩
      case round =>
        obtain ⟨x, x1, x2, rfl, rfl⟩ := hrel
        by_cases hx : x < t
        · by_cases hm : x % q = 0
          · have hm2 : (x : Int) % (q : Int) = 0 := by
              have e : ((x % q : Nat) : Int) = 0 := by rw [hm]; rfl
              push_cast at e
              exact e
            have hgo := HGO.out x x1 hx
            have hg1 : (y : Int) + 8 < (x : Int) := by omega
            have hg2 : (x : Int) < (y : Int) + 24 := by omega
            clear hm hgo
            go_wp2
            go_roundw
            case rel => exact ⟨x + 1, by omega, by omega, by go_num, by first | rfl | trivial⟩
            case measure => first | (simp [intOf]; done) | (simp [intOf]; omega)
          · have hm2 : ¬ (x : Int) % (q : Int) = 0 := by
              have e : ((x % q : Nat) : Int) ≠ 0 := by omega
              push_cast at e
              exact e
            clear hm
            go_wp2
            go_roundw
            case rel => exact ⟨x + 1, by omega, by omega, by go_num, by first | rfl | trivial⟩
            case measure => first | (simp [intOf]; done) | (simp [intOf]; omega)
        · obtain rfl : x = t := by omega
          have hza := HZA.out
          have hg1 : (y : Int) + 8 < (x : Int) := by omega
          have hg2 : ¬ (x : Int) < (y : Int) + 24 := by omega
          have ha1 : 0 < (x : Int) - 8 - (y : Int) := by omega
          clear hza HZA
          go_wp2_with (first
            | (go_at_call 64; (with_reducible refine (SP0.out _ j1).mono ?_); rintro e w2 ⟨rfl, j2⟩)
            | (go_at_call 22; (with_reducible refine (PUT0.out _ j2).mono ?_); rintro e w3 ⟨rfl, j3⟩)
            | (go_at_call 63; (with_reducible refine (HN.out _).mono ?_); rintro e w' ⟨rfl, rfl⟩)
            | (go_at_call 64; (with_reducible refine (SP.out _ j3).mono ?_); rintro e w4 ⟨rfl, j4⟩))
          go_ret2
          exact ⟨by simp, j4⟩
set_option maxHeartbeats 4000000 in
theorem dalig_my {q k n z i y t : Nat} {J1 J2 J3 J4 J5 : World → Prop} (hk : 3 ≤ k ∧ k ≤ 12) (hq : q = 2 ^ k) (h1 : 1 ≤ n) (h2 : n ≤ 65536) (hz : need n = z) (hzb : z < 70000) (hi : i < 100000) (hp : y < 70000) (ht : tgt q y = t) (hza : y + 24 ≤ t)
    (F : Calls Tryd.prog 62 #[.pointer (some ⟨r, 0, none⟩), .int .i64 ((z : Int) + (q : Int) + 16)] w fun e w' => e = .returned (.int .i64 i) ∧ J1 w')
    (AT : ∀ w1, J1 w1 → ∃ g1 n1 c1, w1.cell? ⟨r, 0, none⟩ = some (.slice (some ⟨g1, 0, none⟩) n1 c1) ∧ i < n1 ∧ w1.cell? ⟨g1, i * 3, none⟩ = some (.int .i64 y))
    (SP0 : ∀ w1, J1 w1 → Calls Tryd.prog 64 #[.pointer (some ⟨r, 0, none⟩), .int .i64 i, .int .i64 ((t : Int) - 8 - (y : Int))] w1 fun e w' => e = .returned (.bool true) ∧ J2 w') (PUT0 : ∀ w1, J2 w1 → Calls Tryd.prog 22 #[.pointer (some ⟨r, 0, none⟩), .int .i64 i] w1 fun e w' => e = .returned (.tuple #[]) ∧ J3 w') (SP : ∀ w1, J3 w1 → Calls Tryd.prog 64 #[.pointer (some ⟨r, 0, none⟩), .int .i64 ((i : Int) + 1), .int .i64 z] w1 fun e w' => e = .returned (.bool true) ∧ J4 w') (PUT : ∀ w1, J4 w1 → Calls Tryd.prog 22 #[.pointer (some ⟨r, 0, none⟩), .int .i64 (((i : Int) + 1) + 1)] w1 fun e w' => e = .returned (.tuple #[]) ∧ J5 w') :
    Calls Tryd.prog 28 #[.pointer (some ⟨r, 0, none⟩), .int .i64 q, .int .i64 n] w fun e w' => e = .returned (.tuple #[.int .i64 t, .int .i64 0]) ∧ J5 w' := by
  have HM : Hid (∀ w, Calls Tryd.prog 61 #[.int .i64 n] w fun e w' => e = .returned (.bool true) ∧ w = w') := Lib.hid fun w => by have := dmay_any n w; rw [decide_eq_true (by omega)] at this; exact this
  have HN : Hid (∀ w, Calls Tryd.prog 63 #[.int .i64 n] w fun e w' => e = .returned (.int .i64 z) ∧ w = w') := Lib.hid fun w => by rw [← hz]; exact dneed_any w h2
  have hqb : q ≤ 2 ^ 12 := by rw [hq]; exact Nat.pow_le_pow_right (by omega) hk.2
  have hq0 : 0 < q := by rw [hq]; exact Nat.pos_of_ne_zero (by simp)
  have hend := tgt_end (q := q) (p := y) hq0
  rw [ht] at hend
  have HGO : Hid (∀ x, y + 8 ≤ x → x < t → x % q ≠ 0 ∨ (y + 8 < x ∧ x < y + 24)) := Lib.hid fun x a b => tgt_go hq0 a (by rw [ht]; exact b)
  have HQ := Lib.hid hq
  have htb : t < 100000 := by omega
  have htp : y + 8 ≤ t := hend.2.2.1
  have hmod : (t : Int) % (q : Int) = 0 := by
    have := hend.1
    have e : ((t % q : Nat) : Int) = 0 := by rw [this]; rfl
    push_cast at e
    exact e
  replace F := Lib.hid F
  replace AT := Lib.hid AT
  replace SP0 := Lib.hid SP0
  replace PUT0 := Lib.hid PUT0
  replace SP := Lib.hid SP
  replace PUT := Lib.hid PUT
  have HZA := Lib.hid hza
  clear hq hz hend ht hza
  go_enter Tryd.func28, Tryd.ntmps28
  go_wp2
  go_loopw [8, 9] (fun vg vp wr => ∃ j p : Nat, 3 ≤ j ∧ j ≤ 13 ∧ p = 2 ^ j ∧ vp = .int .i64 p ∧ vg = .bool (decide (k < j)) ∧ w = wr) (fun _ vp _ => 8192 - (intOf vp).toNat)
  case atStart => exact ⟨3, 8, by omega, by omega, rfl, rfl, by rw [decide_eq_false (by omega)], rfl⟩
  case round =>
    obtain ⟨j, p, j1, j2, hp, rfl, rfl, rfl⟩ := hrel
    by_cases hj : j ≤ 12
    · have hpl : p ≤ 2 ^ 12 := by rw [hp]; exact Nat.pow_le_pow_right (by omega) hj
      have hp0 : 2 ^ 3 ≤ p := by rw [hp]; exact Nat.pow_le_pow_right (by omega) j1
      have hle : (p : Int) ≤ 4096 := by omega
      by_cases hkj : k < j
      · have hd : decide (k < j) = true := decide_eq_true hkj
        have HP := Lib.hid hp
        clear hp
        rw [hd]
        go_wp2
        go_roundw
        case rel => exact ⟨j + 1, p * 2, by omega, by omega, by rw [HP.out, Nat.pow_succ], by go_num, by rw [decide_eq_true (by omega : k < j + 1)], by first | rfl | trivial⟩
        case measure => first | (simp [intOf]; done) | (simp [intOf]; omega)
      · have hd : decide (k < j) = false := decide_eq_false hkj
        rw [hd]
        by_cases hjk : j = k
        · have heq : ((p : Int) == (q : Int)) = true := by rw [hp, HQ.out, hjk]; simp
          have HP := Lib.hid hp
          clear hp
          go_wp2
          go_roundw
          case rel => exact ⟨j + 1, p * 2, by omega, by omega, by rw [HP.out, Nat.pow_succ], by go_num, by rw [decide_eq_true (by omega : k < j + 1)], by first | rfl | trivial⟩
          case measure => first | (simp [intOf]; done) | (simp [intOf]; omega)
        · have heq : ((p : Int) == (q : Int)) = false := by
            have : p ≠ q := by rw [hp, HQ.out]; exact fun e => hjk (pow_inj2 e)
            simp; omega
          have HP := Lib.hid hp
          clear hp
          go_wp2
          go_roundw
          case rel => exact ⟨j + 1, p * 2, by omega, by omega, by rw [HP.out, Nat.pow_succ], by go_num, by rw [decide_eq_false (by omega : ¬ k < j + 1)], by first | rfl | trivial⟩
          case measure => first | (simp [intOf]; done) | (simp [intOf]; omega)
    · obtain rfl : j = 13 := by omega
      have hgt : ¬ (p : Int) ≤ 4096 := by rw [hp]; decide
      have hpb : p < 10000 := by rw [hp]; decide
      have hd : decide (k < 13) = true := decide_eq_true (by omega)
      rw [hd]
      clear hp
      have i0 : (0 : Int) ≤ (i : Int) := by omega
      have i9 : ¬ (i : Int) < 0 := by omega
      go_wp2_with (first
        | (go_at_call 61; (with_reducible refine (HM.out _).mono ?_); rintro e w' ⟨rfl, rfl⟩)
        | (go_at_call 63; (with_reducible refine (HN.out _).mono ?_); rintro e w' ⟨rfl, rfl⟩)
        | (go_at_call 62; (with_reducible refine F.out.mono ?_); rintro e w1 ⟨rfl, j1⟩; obtain ⟨g1, n1, c1, q0, q1, q2⟩ := AT.out _ j1; have q3 : (i : Int) < (n1 : Int) := (by omega)))
      clear i9
      go_loopw [11] (fun vx wr => ∃ x : Nat, y + 8 ≤ x ∧ x ≤ t ∧ vx = .int .i64 x ∧ w1 = wr) (fun vx _ => t - (intOf vx).toNat)
      case atStart => exact ⟨y + 8, Nat.le_refl _, htp, by go_num, rfl⟩
      case round =>
        obtain ⟨x, x1, x2, rfl, rfl⟩ := hrel
        by_cases hx : x < t
        · by_cases hm : x % q = 0
          · have hm2 : (x : Int) % (q : Int) = 0 := by
              have e : ((x % q : Nat) : Int) = 0 := by rw [hm]; rfl
              push_cast at e
              exact e
            have hgo := HGO.out x x1 hx
            have hg1 : (y : Int) + 8 < (x : Int) := by omega
            have hg2 : (x : Int) < (y : Int) + 24 := by omega
            clear hm hgo
            go_wp2
            go_roundw
            case rel => exact ⟨x + 1, by omega, by omega, by go_num, by first | rfl | trivial⟩
            case measure => first | (simp [intOf]; done) | (simp [intOf]; omega)
          · have hm2 : ¬ (x : Int) % (q : Int) = 0 := by
              have e : ((x % q : Nat) : Int) ≠ 0 := by omega
              push_cast at e
              exact e
            clear hm
            go_wp2
            go_roundw
            case rel => exact ⟨x + 1, by omega, by omega, by go_num, by first | rfl | trivial⟩
            case measure => first | (simp [intOf]; done) | (simp [intOf]; omega)
        · obtain rfl : x = t := by omega
          have hza := HZA.out
          have hg1 : (y : Int) + 8 < (x : Int) := by omega
          have hg2 : ¬ (x : Int) < (y : Int) + 24 := by omega
          have ha1 : 0 < (x : Int) - 8 - (y : Int) := by omega
          clear hza HZA
          go_wp2_with (first
            | (go_at_call 64; (with_reducible refine (SP0.out _ j1).mono ?_); rintro e w2 ⟨rfl, j2⟩)
            | (go_at_call 22; (with_reducible refine (PUT0.out _ j2).mono ?_); rintro e w3 ⟨rfl, j3⟩)
            | (go_at_call 63; (with_reducible refine (HN.out _).mono ?_); rintro e w' ⟨rfl, rfl⟩)
            | (go_at_call 64; (with_reducible refine (SP.out _ j3).mono ?_); rintro e w4 ⟨rfl, j4⟩)
            | (go_at_call 22; (with_reducible refine (PUT.out _ j4).mono ?_); rintro e w5 ⟨rfl, j5⟩))
          go_ret2
          exact ⟨by simp, j5⟩
end
end Go.Proofs.YthlaoanfoimkfaaDoor
namespace Go.Proofs.YthlaoanfoimkfaaDoor
open Go.RowKit
set_option linter.unusedVariables false
set_option linter.all false
set_option maxRecDepth 100000
section
variable {w w' w1 w2 : World} {r gB gM g1 g2 N : Nat} {B B' A C : List Bk} {b : Bk} {L L' : Nat → List Nat} {M M' : List UInt8} {S : List Nat}
variable [HAdd Unit Unit Nat]
theorem up_eq {q n : Nat} (hq : 0 < q) : up q n = n ↔ n % q = 0 := by
  have h := up_is (n := n) hq
  constructor
  · intro e; rw [e] at h; exact h.1
  · intro e
    rcases Nat.lt_or_ge n (up q n) with c | c
    · exact absurd e (h.2.2.2 n (Nat.le_refl _) c)
    · omega
theorem dalig_zero {n k c : Nat} (H : Dr w r gB gM (A ++ b :: C) L M) (hl : (A ++ b :: C).length ≤ 70000) (ht : Tile 112 (A ++ b :: C) N) (hN : N ≤ 65536) (hll : ∀ c, (L c).length ≤ 30000) (h1 : 1 ≤ n) (h2 : n ≤ 65536) (hk : 3 ≤ k ∧ k ≤ 12)
    (hc : FirstC L (floor (need n + 2 ^ k + 16)) c) (hc32 : c < 32) (hd : (L c).headD 0 = b.at') (h0 : (b.at' + 8) % 2 ^ k = 0) :
    Calls Tryd.prog 28 #[.pointer (some ⟨r, 0, none⟩), .int .i64 (2 ^ k : Nat), .int .i64 n] w fun e w' => e = .returned (.tuple #[.int .i64 (b.at' + 8 : Nat), .int .i64 0]) ∧
      DS w r gB gM (cutS false A b.at' b.size (need n) C (rmL L (cls b.size) b.at')).1 (cutS false A b.at' b.size (need n) C (rmL L (cls b.size) b.at')).2 M w' := by
  have hn := need_is n
  have hz2 := hn.2.2.2 h2
  have hpos := ht.pos
  have hqb : 2 ^ k ≤ 2 ^ 12 := Nat.pow_le_pow_right (by omega) hk.2
  have F := dfind_yes H (by omega) ht hN (fun d => by have := hll d; omega) (by omega) (by omega) hc hc32 hd
  rw [show ((need n + 2 ^ k + 16 : Nat) : Int) = (need n : Int) + ((2 ^ k : Nat) : Int) + 16 by omega] at F
  have hr : ∀ d, (rmL L (cls b.size) b.at' d).length ≤ 30000 := fun d => Nat.le_trans (rmL_len _ _ _ _) (hll d)
  have htg : tgt (2 ^ k) b.at' = b.at' + 8 := by unfold tgt; rw [if_pos h0]
  simp only [List.length_append, List.length_cons] at hl
  by_cases hlt : b.size - need n < 16
  · have e0 : cutS false A b.at' b.size (need n) C (rmL L (cls b.size) b.at') = (A ++ ⟨b.at', b.size, 0⟩ :: C, rmL L (cls b.size) b.at') := by unfold cutS; rw [if_pos hlt]
    rw [e0]
    refine (dalig_zn (J2 := fun _ => True) (J3 := fun _ => True) (J5 := fun _ => True) (i := A.length) (y := b.at') hk rfl h1 h2 rfl (by omega) (by omega) (by omega) htg rfl F
      (fun w1 j1 => by obtain ⟨g1, n1, c1, q0, q1, q2, q3⟩ := j1.atOf; exact ⟨g1, n1, c1, q0, q1, q2⟩) (J4 := DS w r gB gM (A ++ ⟨b.at', b.size, 2⟩ :: C) (rmL L (cls b.size) b.at') M)
      (fun w1 j1 => ds_split_no rfl j1 (by simp; omega) (by show b.size < 65536; omega) (by omega) hlt)).mono ?_
    rintro e w2 ⟨rfl, j2⟩
    exact ⟨rfl, j2.kind (b := ⟨b.at', b.size, 2⟩) (k := 0) rfl⟩
  · have e0 : cutS false A b.at' b.size (need n) C (rmL L (cls b.size) b.at') = putS (A ++ [⟨b.at', need n, 0⟩]) (b.at' + need n) (b.size - need n) C (rmL L (cls b.size) b.at') := by unfold cutS; rw [if_neg hlt]; rfl
    rw [e0]
    exact dalig_zy (J2 := fun _ => True) (J3 := fun _ => True) (i := A.length) (y := b.at') hk rfl h1 h2 rfl (by omega) (by omega) (by omega) htg rfl F
      (fun w1 j1 => by obtain ⟨g1, n1, c1, q0, q1, q2, q3⟩ := j1.atOf; exact ⟨g1, n1, c1, q0, q1, q2⟩) (J4 := DS w r gB gM (A ++ ⟨b.at', need n, 0⟩ :: ⟨b.at' + need n, b.size - need n, 2⟩ :: C) (rmL L (cls b.size) b.at') M)
      (J5 := DS w r gB gM (putS (A ++ [⟨b.at', need n, 0⟩]) (b.at' + need n) (b.size - need n) C (rmL L (cls b.size) b.at')).1 (putS (A ++ [⟨b.at', need n, 0⟩]) (b.at' + need n) (b.size - need n) C (rmL L (cls b.size) b.at')).2 M)
      (fun w1 j1 => ds_split_yes (A := A) (b := ⟨b.at', b.size, 2⟩) (C := C) (k := 0) rfl j1 (by simp; omega) (by show b.size < 65536; omega) (by show b.at' < 65536; omega) (by show 16 ≤ b.size - need n; omega) rfl)
      (fun w1 j2 => by
        have hd : DS w r gB gM ((A ++ [⟨b.at', need n, 0⟩]) ++ ⟨b.at' + need n, b.size - need n, 2⟩ :: C) (rmL L (cls b.size) b.at') M w1 := by simpa using j2
        have := ds_put (i := A.length + 1) (by simp) hd (by simp; omega) (by show 16 ≤ b.size - need n ∧ b.size - need n < 65536; omega) (fun d => by have := hr d; omega)
        push_cast at this
        exact this)
theorem dalig_more {n k c a : Nat} (H : Dr w r gB gM (A ++ b :: C) L M) (hl : (A ++ b :: C).length ≤ 70000) (ht : Tile 112 (A ++ b :: C) N) (hN : N ≤ 65536) (hll : ∀ c, (L c).length ≤ 30000) (h1 : 1 ≤ n) (h2 : n ≤ 65536) (hk : 3 ≤ k ∧ k ≤ 12)
    (hc : FirstC L (floor (need n + 2 ^ k + 16)) c) (hc32 : c < 32) (hd : (L c).headD 0 = b.at') (hbig : need n + 2 ^ k + 16 ≤ b.size) (h0 : (b.at' + 8) % 2 ^ k ≠ 0) (ha : up (2 ^ k) (b.at' + 24) = b.at' + 8 + a) :
    Calls Tryd.prog 28 #[.pointer (some ⟨r, 0, none⟩), .int .i64 (2 ^ k : Nat), .int .i64 n] w fun e w' => e = .returned (.tuple #[.int .i64 (b.at' + a + 8 : Nat), .int .i64 0]) ∧
      DS w r gB gM (cutS false (A ++ [⟨b.at', a, 1⟩]) (b.at' + a) (b.size - a) (need n) C (insL (rmL L (cls b.size) b.at') (cls a) b.at')).1 (cutS false (A ++ [⟨b.at', a, 1⟩]) (b.at' + a) (b.size - a) (need n) C (insL (rmL L (cls b.size) b.at') (cls a) b.at')).2 M w' := by
  have hn := need_is n
  have hz2 := hn.2.2.2 h2
  have hpos := ht.pos
  have hqb : 2 ^ k ≤ 2 ^ 12 := Nat.pow_le_pow_right (by omega) hk.2
  have F := dfind_yes H (by omega) ht hN (fun d => by have := hll d; omega) (by omega) (by omega) hc hc32 hd
  rw [show ((need n + 2 ^ k + 16 : Nat) : Int) = (need n : Int) + ((2 ^ k : Nat) : Int) + 16 by omega] at F
  have hu := up_is (q := 2 ^ k) (n := b.at' + 24) (Nat.pos_of_ne_zero (by simp))
  rw [ha] at hu
  have htg : tgt (2 ^ k) b.at' = b.at' + a + 8 := by unfold tgt; rw [if_neg h0, ha]; omega
  obtain ⟨L1, hL1⟩ : ∃ L1, insL (rmL L (cls b.size) b.at') (cls a) b.at' = L1 := ⟨_, rfl⟩
  have hr : ∀ d, (rmL L (cls b.size) b.at' d).length ≤ 30000 := fun d => Nat.le_trans (rmL_len _ _ _ _) (hll d)
  have hr1 : ∀ d, (L1 d).length ≤ 30001 := fun d => by rw [← hL1]; exact Nat.le_trans (insL_len _ _ _ _) (by have := hr d; omega)
  rw [hL1]
  simp only [List.length_append, List.length_cons] at hl
  have SP0 : ∀ w1, DS w r gB gM (A ++ ⟨b.at', b.size, 2⟩ :: C) (rmL L (cls b.size) b.at') M w1 → Calls Tryd.prog 64 #[.pointer (some ⟨r, 0, none⟩), .int .i64 A.length, .int .i64 (((b.at' + a + 8 : Nat) : Int) - 8 - (b.at' : Int))] w1 fun e w' => e = .returned (.bool true) ∧ DS w r gB gM (A ++ ⟨b.at', a, 2⟩ :: ⟨b.at' + a, b.size - a, 2⟩ :: C) (rmL L (cls b.size) b.at') M w' := fun w1 j1 => by
    rw [show (((b.at' + a + 8 : Nat) : Int) - 8 - (b.at' : Int)) = (a : Nat) by omega]
    exact ds_split_yes (A := A) (b := ⟨b.at', b.size, 2⟩) (C := C) (k := 2) rfl j1 (by simp; omega) (by show b.size < 65536; omega) (by show b.at' < 65536; omega) (by show 16 ≤ b.size - a; omega) rfl
  have PUT0 : ∀ w1, DS w r gB gM (A ++ ⟨b.at', a, 2⟩ :: ⟨b.at' + a, b.size - a, 2⟩ :: C) (rmL L (cls b.size) b.at') M w1 → Calls Tryd.prog 22 #[.pointer (some ⟨r, 0, none⟩), .int .i64 A.length] w1 fun e w' => e = .returned (.tuple #[]) ∧ DS w r gB gM ((A ++ [⟨b.at', a, 1⟩]) ++ ⟨b.at' + a, b.size - a, 2⟩ :: C) L1 M w' := fun w1 j1 => by
    refine (ds_put (A := A) (b := ⟨b.at', a, 2⟩) rfl j1 (by simp; omega) (by show 16 ≤ a ∧ a < 65536; omega) (fun d => by have := hr d; omega)).mono ?_
    rintro e w2 ⟨rfl, j⟩
    rw [← hL1]
    exact ⟨rfl, by simpa using j⟩
  have hix : ((A ++ [(⟨b.at', a, 1⟩ : Bk)]).length) = A.length + 1 := by simp
  by_cases hlt : b.size - a - need n < 16
  · have e0 : cutS false (A ++ [⟨b.at', a, 1⟩]) (b.at' + a) (b.size - a) (need n) C L1 = ((A ++ [⟨b.at', a, 1⟩]) ++ ⟨b.at' + a, b.size - a, 0⟩ :: C, L1) := by unfold cutS; rw [if_pos hlt]
    rw [e0]
    refine (dalig_mn (J5 := fun _ => True) (i := A.length) (y := b.at') hk rfl h1 h2 rfl (by omega) (by omega) (by omega) htg (by omega) F
      (fun w1 j1 => by obtain ⟨g1, n1, c1, q0, q1, q2, q3⟩ := j1.atOf; exact ⟨g1, n1, c1, q0, q1, q2⟩) SP0 PUT0 (J4 := DS w r gB gM ((A ++ [⟨b.at', a, 1⟩]) ++ ⟨b.at' + a, b.size - a, 2⟩ :: C) L1 M)
      (fun w1 j1 => by
        have := ds_split_no (i := A.length + 1) (z := need n) hix j1 (by simp; omega) (by show b.size - a < 65536; omega) (by omega) hlt
        push_cast at this
        exact this)).mono ?_
    rintro e w2 ⟨rfl, j2⟩
    exact ⟨rfl, j2.kind (b := ⟨b.at' + a, b.size - a, 2⟩) (k := 0) rfl⟩
  · have e0 : cutS false (A ++ [⟨b.at', a, 1⟩]) (b.at' + a) (b.size - a) (need n) C L1 = putS ((A ++ [⟨b.at', a, 1⟩]) ++ [⟨b.at' + a, need n, 0⟩]) (b.at' + a + need n) (b.size - a - need n) C L1 := by unfold cutS; rw [if_neg hlt]; rfl
    rw [e0]
    exact dalig_my (i := A.length) (y := b.at') hk rfl h1 h2 rfl (by omega) (by omega) (by omega) htg (by omega) F
      (fun w1 j1 => by obtain ⟨g1, n1, c1, q0, q1, q2, q3⟩ := j1.atOf; exact ⟨g1, n1, c1, q0, q1, q2⟩) SP0 PUT0 (J4 := DS w r gB gM ((A ++ [⟨b.at', a, 1⟩]) ++ ⟨b.at' + a, need n, 0⟩ :: ⟨b.at' + a + need n, b.size - a - need n, 2⟩ :: C) L1 M)
      (J5 := DS w r gB gM (putS ((A ++ [⟨b.at', a, 1⟩]) ++ [⟨b.at' + a, need n, 0⟩]) (b.at' + a + need n) (b.size - a - need n) C L1).1 (putS ((A ++ [⟨b.at', a, 1⟩]) ++ [⟨b.at' + a, need n, 0⟩]) (b.at' + a + need n) (b.size - a - need n) C L1).2 M)
      (fun w1 j1 => by
        have := ds_split_yes (A := A ++ [⟨b.at', a, 1⟩]) (b := ⟨b.at' + a, b.size - a, 2⟩) (C := C) (z := need n) (i := A.length + 1) (k := 0) hix j1 (by simp; omega) (by show b.size - a < 65536; omega) (by show b.at' + a < 65536; omega) (by show 16 ≤ b.size - a - need n; omega) rfl
        push_cast at this
        exact this)
      (fun w1 j2 => by
        have hd : DS w r gB gM (((A ++ [⟨b.at', a, 1⟩]) ++ [⟨b.at' + a, need n, 0⟩]) ++ ⟨b.at' + a + need n, b.size - a - need n, 2⟩ :: C) L1 M w1 := by simpa using j2
        have := ds_put (i := A.length + 1 + 1) (by simp) hd (by simp; omega) (by show 16 ≤ b.size - a - need n ∧ b.size - a - need n < 65536; omega) (fun d => by have := hr1 d; omega)
        push_cast at this
        exact this)
end
end Go.Proofs.YthlaoanfoimkfaaDoor
