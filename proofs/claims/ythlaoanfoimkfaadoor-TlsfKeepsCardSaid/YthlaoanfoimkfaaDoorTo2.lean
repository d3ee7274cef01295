/- Tlsf: the walk of TlsfKeeps. Condition: the arguments lie; the program's table. -/
import Derived.Test.YthlaoanfoimkfaaDoorToA
namespace Go.Proofs.YthlaoanfoimkfaaDoor
open Go.RowKit Go.Shelf
set_option linter.unusedVariables false
set_option linter.all false
set_option maxRecDepth 100000
section
variable {w w' w1 w2 : World} {p h g gb cap mb r gB gM N base n : Nat} {m : Nat → Nat}
set_option maxHeartbeats 16000000 in
theorem keeps_in (hE : Env w) (hN : 256 ≤ N ∧ N ≤ 65536 ∧ N % 8 = 0) {A : Option Addr} {nl c : Nat} (hst : StAt w A nl) : Calls Tryd.prog 3 #[.int .i64 N, .slice A nl c] w fun e w' => e = .returned (.bool true) ∧ Below w.heap.size w w' := by
  have MD := Lib.hid (made_yes hN (w := w))
  have HST := Lib.hid hst
  have HE := Lib.hid hE
  have h0 : 0 < w.heap.size := hE.one
  have hN2 : ¬ (65536 : Int) < (N : Int) := by omega
  have DN : Hid (∀ W, Only [] w W → Calls Tryd.prog 7 #[.int .i64 N] W fun e w' => ∃ r gB gM, e = .returned (.pointer (some ⟨r, 0, none⟩)) ∧ Only [] W w' ∧ @Dr ⟨fun _ _ => 0⟩ w' r gB gM [⟨112, N - 112, 1⟩] (insL (fun _ => []) (cls (N - 112)) 112) (List.replicate N 0) ∧ W.heap.size ≤ r ∧ W.heap.size ≤ gB ∧ W.heap.size ≤ gM) := Lib.hid fun W o => @dnew_any W N ⟨fun _ _ => 0⟩ (by have := o.size; show 0 < _; omega) hN
  clear hst hE
  go_enter Tryd.func3, Tryd.ntmps3
  go_wp2_with (first
    | (go_at_call 5; (with_reducible refine MD.out.mono ?_); rintro e w1 ⟨h, g, gb, cap, mb, m, rfl, o1, H1, a1, a2, a3, a4⟩; have HO1 := Lib.hid o1; have HH1 := Lib.hid H1; clear o1 H1)
    | (go_at_call 7; (with_reducible refine (DN.out _ HO1.out).mono ?_); rintro e w2 ⟨r, gB, gM, rfl, o2, D2, b1, b2, b3⟩; have HI := Lib.hid (SP.init HE.out HO1.out HH1.out a1 a2 a3 a4 o2 D2 b1 b2 b3); clear o2 D2 b1 b2 b3))
  obtain ⟨p, hp⟩ : ∃ p, w2.heap.size = p := ⟨_, rfl⟩
  have HI2 := Lib.hid (HI.out.2)
  rw [hp] at HI2 ⊢
  obtain ⟨W3, hW3⟩ : ∃ W3, w2.alloc (.cells #[.pointer (some ⟨h, 0, none⟩), .pointer (some ⟨r, 0, none⟩), .slice none 0 0] 31) = W3 := ⟨_, rfl⟩
  rw [hW3] at HI HI2 ⊢
  clear hW3 hp HH1 HO1 MD DN
  go_loopw [7] (fun vi wr => ∃ i : Nat, i ≤ nl ∧ i ≤ 100 ∧ vi = .int .i64 (i : Nat) ∧ Hid (Below w.heap.size w wr ∧ SP w.heap.size p N i wr)) (fun vi _ => nl - (intOf vi).toNat)
  case atStart => exact ⟨0, by omega, by omega, rfl, Lib.hid ⟨HI.out.1, HI2.out⟩⟩
  case round =>
    obtain ⟨i, hi, hi2, rfl, hj⟩ := hrel
    by_cases hlt : i < nl ∧ i < 100
    · have j1 : (i : Int) < (nl : Int) := by omega
      have j0 : (0 : Int) ≤ (i : Int) := by omega
      have j2 : (i : Int) < 100 := by omega
      obtain ⟨a, kd, nn, q, at_, odd, wv, rfl, k0, k1, k2, k3, k4, k5, rq, ra, rw_⟩ := (HST.out.below hj.out.1) i hlt.1
      have DO : Hid (Calls Tryd.prog 8 #[.pointer (some ⟨p, 0, none⟩), .agg #[.int .i64 kd, .int .i64 nn, .int .i64 q, .int .i64 at_, .bool odd, .int .u32 wv]] wr fun e w' => e = .returned (.bool true) ∧ Below w.heap.size wr w' ∧ SP w.heap.size p N (i + 1) w') := Lib.hid (do_any hj.out.2 h0 (by omega) kd nn q at_ rq ra odd rw_)
      clear hlt rq ra rw_
      have HJ := Lib.hid hj.out.1
      go_wp2_with (first
        | (go_at_call 8; (with_reducible refine DO.out.mono ?_); rintro e w4 ⟨rfl, b4, s4⟩; have B4 := Lib.hid (HJ.out.trans b4); have S4 := Lib.hid s4; clear b4 s4))
      obtain ⟨hE4, X, h', g', gb', cap', mb', r', gB', gM', A', c', B, L, m', M, l, P, hag, hl⟩ := S4.out
      obtain ⟨d, hd1, hd2, hr0⟩ := P.dr.bcap
      have hI := Lib.hid P.hp.inv
      have hbl := hI.out.blen
      have hNs := hI.out.size
      have hMl := P.len
      obtain ⟨f1, f2, f3, f4, f5⟩ := P.far
      have hrg : r' ≠ g' := f2.2.1.symm
      have HP4 := Lib.hid P
      have HAG := Lib.hid hag
      have hbw := P.bw
      -- what stays: the pair, while only the cost is written
      have KEEP : Hid (∀ W W', Below w.heap.size w W → Only [g'] w4 W → Pr W w.heap.size p h' g' gb' cap' mb' r' gB' gM' N A' c' B L m' B L M l → Only [] W W' → Below w.heap.size w W' ∧ Only [g'] w4 W' ∧ Pr W' w.heap.size p h' g' gb' cap' mb' r' gB' gM' N A' c' B L m' B L M l) := Lib.hid fun W W' b o P' o2 => by
        obtain ⟨P2, b2⟩ := P'.keep o2
        exact ⟨b.trans b2, o.trans0 o2, P2⟩
      have SLOT : Hid (∀ W, Only [g'] w4 W → Pr W w.heap.size p h' g' gb' cap' mb' r' gB' gM' N A' c' B L m' B L M l → W.cell? ⟨p, 0, none⟩ = some (.pointer (some ⟨h', 0, none⟩)) ∧ W.cell? ⟨p, 1, none⟩ = some (.pointer (some ⟨r', 0, none⟩)) ∧ W.cell? ⟨r', 0, none⟩ = some (.slice (some ⟨gB', 0, none⟩) B.length d)) := Lib.hid fun W o P' => ⟨P'.slot0, P'.slot1, o.keep hr0 (by simp; exact hrg)⟩
      clear P hag hr0 f1 f2 f3 f4 f5 S4 DO k0 k1 k2 k3 k4 k5 hE4
      go_loopw [8] (fun vb wr => ∃ b : Nat, b ≤ B.length ∧ vb = .int .i64 (b : Nat) ∧ Hid (Below w.heap.size w wr ∧ Only [g'] w4 wr ∧ Pr wr w.heap.size p h' g' gb' cap' mb' r' gB' gM' N A' c' B L m' B L M l)) (fun vb _ => B.length - (intOf vb).toNat)
      case atStart => exact ⟨0, by omega, rfl, Lib.hid ⟨B4.out, Only.refl _ _, HP4.out⟩⟩
      case round =>
        obtain ⟨b, hb, rfl, hk⟩ := hrel
        obtain ⟨p0, p1, r0⟩ := SLOT.out wr hk.out.2.1 hk.out.2.2
        by_cases hbl2 : b < B.length
        · obtain ⟨x, hx⟩ : ∃ x, B[b]? = some x := ⟨B[b], List.getElem?_eq_getElem hbl2⟩
          have i0 : (0 : Int) ≤ (b : Int) := by omega
          have i1 : (b : Int) < (B.length : Int) := by omega
          obtain ⟨x0, x1, x2⟩ := hk.out.2.2.dr.bl hx
          have hxm : x ∈ B := List.mem_of_getElem? hx
          have htx := Tile.mem hI.out.tile x hxm
          have HX := Lib.hid hx
          obtain ⟨xb, hxb⟩ : ∃ xb, wr.heap.size = xb := ⟨_, rfl⟩
          have hwrs := hk.out.2.1.size
          have hg4 := HP4.out.hp.lt
          have hxg : xb ≠ g' := by omega
          have KX : Hid (Below w.heap.size w (wr.alloc (.cells #[.int .i64 x.at', .int .i64 x.size, .bool (x.k == 1)] 42)) ∧ Only [g'] w4 (wr.alloc (.cells #[.int .i64 x.at', .int .i64 x.size, .bool (x.k == 1)] 42)) ∧ Pr (wr.alloc (.cells #[.int .i64 x.at', .int .i64 x.size, .bool (x.k == 1)] 42)) w.heap.size p h' g' gb' cap' mb' r' gB' gM' N A' c' B L m' B L M l ∧ Blk (wr.alloc (.cells #[.int .i64 x.at', .int .i64 x.size, .bool (x.k == 1)] 42)) xb 42 #[.int .i64 x.at', .int .i64 x.size, .bool (x.k == 1)]) := Lib.hid (by
            obtain ⟨q1, q2, q3⟩ := KEEP.out wr _ hk.out.1 hk.out.2.1 hk.out.2.2 ((Only.refl [] wr).alloc (.cells #[.int .i64 x.at', .int .i64 x.size, .bool (x.k == 1)] 42))
            exact ⟨q1, q2, q3, hxb ▸ Blk.new wr 42 _⟩)
          clear hbl2 hx hk
          go_wp2
          try rw [hxb]
          obtain ⟨wx, hwx⟩ : ∃ wx, wr.alloc (.cells #[.int .i64 x.at', .int .i64 x.size, .bool (x.k == 1)] 42) = wx := ⟨_, rfl⟩
          rw [hwx] at KX ⊢
          clear hwx x0 x1 x2 p0 p1 r0
          go_loopw [10] (fun vk wq => ∃ k : Nat, 8 ≤ k ∧ k ≤ 76 ∧ k % 4 = 0 ∧ vk = .int .i64 (k : Nat) ∧ Hid (Below w.heap.size w wq ∧ Only [g'] w4 wq ∧ Pr wq w.heap.size p h' g' gb' cap' mb' r' gB' gM' N A' c' B L m' B L M l ∧ Blk wq xb 42 #[.int .i64 x.at', .int .i64 x.size, .bool (x.k == 1)])) (fun vk _ => 100 - (intOf vk).toNat)
          case atStart => exact ⟨8, by omega, by omega, by omega, rfl, KX⟩
          case round =>
            obtain ⟨k, hk8, hk76, hk4, rfl, hq⟩ := hrel
            obtain ⟨p0, p1, r0⟩ := SLOT.out wr hq.out.2.1 hq.out.2.2.1
            have z0 : wr.cell? ⟨xb, 0, none⟩ = some (.int .i64 x.at') := by simpa using hq.out.2.2.2.cell 0
            have z1 : wr.cell? ⟨xb, 1, none⟩ = some (.int .i64 x.size) := by simpa using hq.out.2.2.2.cell 1
            have z2 : wr.cell? ⟨xb, 2, none⟩ = some (.bool (x.k == 1)) := by simpa using hq.out.2.2.2.cell 2
            have hw4 : IntKind.i64.wrap ((k : Int) + 4) = (k : Int) + 4 := wraps_i64 _ (by omega) (by omega)
            have hwa : IntKind.i64.wrap ((x.at' : Int) + (k : Int)) = (x.at' : Int) + (k : Int) := wraps_i64 _ (by omega) (by omega)
            by_cases hgo : x.k ≠ 1 ∧ k + 4 ≤ x.size ∧ k < 72
            · obtain ⟨g1, g2, g3⟩ := hgo
              have e1 : (x.k == 1) = false := by simp [g1]
              have e2 : (k : Int) + 4 ≤ (x.size : Int) := by omega
              have e3 : (k : Int) < 72 := by omega
              rw [e1] at z2
              clear e1
              have hx0 : x.k = 0 := by
                have := hI.out.kind x hxm
                have := HP4.out.hp.all x hxm
                omega
              have hin : inB B ((x.at' + k : Nat) : Int) = true := inB_of hxm hx0 (by omega) (by omega) (by omega)
              have hval : wd M (x.at' + k) = m' (x.at' + k) := HAG.out x hxm hx0 _ (by omega) (by omega) (by omega)
              have GET : Hid (∀ W, Below w.heap.size w W → Only [g'] w4 W → Pr W w.heap.size p h' g' gb' cap' mb' r' gB' gM' N A' c' B L m' B L M l → Blk W xb 42 #[.int .i64 x.at', .int .i64 x.size, .bool (x.k == 1)] → Calls Tryd.prog 9 #[.pointer (some ⟨h', 0, none⟩), .int .i64 ((x.at' : Int) + (k : Int))] W fun e w' => e = .returned (.tuple #[.int .u32 (m' (x.at' + k) : Nat), .int .i64 0]) ∧ Below w.heap.size w w' ∧ Only [g'] w4 w' ∧ Pr w' w.heap.size p h' g' gb' cap' mb' r' gB' gM' N A' c' B L m' B L M l ∧ Blk w' xb 42 #[.int .i64 x.at', .int .i64 x.size, .bool (x.k == 1)]) := Lib.hid fun W b o P' bx => by
                refine (get_in P'.hp hin).mono ?_
                rintro e w' ⟨he, o2, H'⟩
                obtain ⟨P2, b2⟩ := P'.hread o2 H'
                exact ⟨he, b.trans b2, o.trans o2 (by simp), P2, bx.only o2 (by simp; exact hxg)⟩
              have DGET : Hid (∀ W, Pr W w.heap.size p h' g' gb' cap' mb' r' gB' gM' N A' c' B L m' B L M l → Calls Tryd.prog 11 #[.pointer (some ⟨r', 0, none⟩), .int .i64 ((x.at' : Int) + (k : Int))] W fun e w' => e = .returned (.int .u32 (m' (x.at' + k) : Nat)) ∧ W = w') := Lib.hid fun W P' => by
                have := dget_any P'.dr (by omega) (o := x.at' + k) (by omega) (by omega)
                rw [hval] at this
                exact this
              obtain ⟨mv, hmv⟩ : ∃ mv, m' (x.at' + k) = mv := ⟨_, rfl⟩
              rw [hmv] at GET DGET
              have QD : Hid (Below w.heap.size w wr.drew ∧ Only [g'] w4 wr.drew ∧ Pr wr.drew w.heap.size p h' g' gb' cap' mb' r' gB' gM' N A' c' B L m' B L M l ∧ Blk wr.drew xb 42 #[.int .i64 x.at', .int .i64 x.size, .bool (x.k == 1)]) := Lib.hid (by
                obtain ⟨q1, q2, q3⟩ := KEEP.out wr _ hq.out.1 hq.out.2.1 hq.out.2.2.1 ((Only.refl [] wr).drew)
                exact ⟨q1, q2, q3, hq.out.2.2.2.only ((Only.refl [] wr).drew) (by simp)⟩)
              clear g1 g2 hin hval hmv hx0
              go_wp2
              go_region_held3 (fun W => W.cell? ⟨p, 0, none⟩ = some (.pointer (some ⟨h', 0, none⟩)) ∧ W.cell? ⟨p, 1, none⟩ = some (.pointer (some ⟨r', 0, none⟩)) ∧ W.cell? ⟨xb, 0, none⟩ = some (.int .i64 x.at')) (first | go_keep | exact ⟨p0, p1, z0⟩)
                (first
                | (go_at_call 9; (with_reducible refine (GET.out _ QD.out.1 QD.out.2.1 QD.out.2.2.1 QD.out.2.2.2).mono ?_); rintro e w6 ⟨rfl, hq6⟩; have Q6 := Lib.hid hq6; obtain ⟨p0, p1, r0⟩ := SLOT.out w6 Q6.out.2.1 Q6.out.2.2.1; have z0 : w6.cell? ⟨xb, 0, none⟩ = some (.int .i64 x.at') := (by simpa using Q6.out.2.2.2.cell 0); clear hq6))
              have Q7 : Hid (Below w.heap.size w w6.drew ∧ Only [g'] w4 w6.drew ∧ Pr w6.drew w.heap.size p h' g' gb' cap' mb' r' gB' gM' N A' c' B L m' B L M l ∧ Blk w6.drew xb 42 #[.int .i64 x.at', .int .i64 x.size, .bool (x.k == 1)]) := Lib.hid (by
                obtain ⟨q1, q2, q3⟩ := KEEP.out w6 _ Q6.out.1 Q6.out.2.1 Q6.out.2.2.1 ((Only.refl [] w6).drew)
                exact ⟨q1, q2, q3, Q6.out.2.2.2.only ((Only.refl [] w6).drew) (by simp)⟩)
              go_wp2
              go_region_held3 (fun W => W.cell? ⟨p, 1, none⟩ = some (.pointer (some ⟨r', 0, none⟩)) ∧ W.cell? ⟨xb, 0, none⟩ = some (.int .i64 x.at')) (first | go_keep | exact ⟨p1, z0⟩)
                (first
                | (go_at_call 10; (with_reducible refine (num_any _ _).mono ?_); rintro e w7 ⟨rfl, rfl⟩)
                | (go_at_call 11; (with_reducible refine (DGET.out _ Q7.out.2.2.1).mono ?_); rintro e w7 ⟨rfl, rfl⟩))
              go_wp2
              go_roundw
              case rel => exact ⟨k + 4, by omega, by omega, by omega, by go_num, Q7⟩
              case measure => simp [intOf]; omega
            · have hq3 : Hid (Below w.heap.size w wr ∧ Only [g'] w4 wr ∧ Pr wr w.heap.size p h' g' gb' cap' mb' r' gB' gM' N A' c' B L m' B L M l) := Lib.hid ⟨hq.out.1, hq.out.2.1, hq.out.2.2.1⟩
              by_cases g1 : x.k = 1
              · have e1 : (x.k == 1) = true := by simp [g1]
                rw [e1] at z2
                clear e1
                clear hgo
                go_wp2
                go_roundw
                case rel => exact ⟨b + 1, by omega, by go_num, hq3⟩
                case measure => simp [intOf]; omega
              · have e1 : (x.k == 1) = false := by simp [g1]
                rw [e1] at z2
                clear e1
                by_cases g2 : k + 4 ≤ x.size
                · have e2 : (k : Int) + 4 ≤ (x.size : Int) := by omega
                  have e3 : ¬ (k : Int) < 72 := by omega
                  clear hgo
                  go_wp2
                  go_roundw
                  case rel => exact ⟨b + 1, by omega, by go_num, hq3⟩
                  case measure => simp [intOf]; omega
                · have e2 : ¬ (k : Int) + 4 ≤ (x.size : Int) := by omega
                  clear hgo
                  go_wp2
                  go_roundw
                  case rel => exact ⟨b + 1, by omega, by go_num, hq3⟩
                  case measure => simp [intOf]; omega
        · have i1 : ¬ (b : Int) < (B.length : Int) := by omega
          have hsp : Hid (Below w.heap.size w wr ∧ SP w.heap.size p N (i + 1) wr) := Lib.hid ⟨hk.out.1, HE.out.below hk.out.1 h0, X, h', g', gb', cap', mb', r', gB', gM', A', c', B, L, m', M, l, hk.out.2.2, HAG.out, hl⟩
          clear hbl2
          go_wp2
          go_roundw
          case rel => exact ⟨i + 1, by omega, by omega, by go_num, hsp⟩
          case measure => simp [intOf]; omega
    · have KN := Lib.hid (known_any hj.out.2.1)
      by_cases e1 : i < nl
      · have j1 : (i : Int) < (nl : Int) := by omega
        have j2 : ¬ (i : Int) < 100 := by omega
        clear hlt
        go_wp2_with (go_at_call 6; (with_reducible refine KN.out.mono ?_); rintro e w4 ⟨rfl, o4⟩)
        go_ret
        exact ⟨by simp, hj.out.1.trans (o4.to (by simp) hj.out.1.size)⟩
      · have j1 : ¬ (i : Int) < (nl : Int) := by omega
        clear hlt
        go_wp2_with (go_at_call 6; (with_reducible refine KN.out.mono ?_); rintro e w4 ⟨rfl, o4⟩)
        go_ret
        exact ⟨by simp, hj.out.1.trans (o4.to (by simp) hj.out.1.size)⟩
set_option maxHeartbeats 4000000 in
theorem keeps_out (hE : Env w) {s : Int} (hN : ¬ (256 ≤ s ∧ s ≤ 65536 ∧ s % 8 = 0)) (hr : -9223372036854775808 ≤ s ∧ s ≤ 9223372036854775807) {A : Option Addr} {nl c : Nat} : Calls Tryd.prog 3 #[.int .i64 s, .slice A nl c] w fun e w' => e = .returned (.bool true) ∧ Below w.heap.size w w' := by
  have MD := Lib.hid (made_no hN hr (w := w))
  have KN := Lib.hid (known_any hE)
  clear hN
  go_enter Tryd.func3, Tryd.ntmps3
  go_wp2_with (first
    | (go_at_call 5; (with_reducible refine MD.out.mono ?_); rintro e w' ⟨rfl, rfl⟩)
    | (go_at_call 6; (with_reducible refine KN.out.mono ?_); rintro e w4 ⟨rfl, o4⟩))
  go_ret
  exact ⟨by simp, o4.below⟩
theorem keeps_law {W : World} (hE : Env W) {s : Int} (hr : -9223372036854775808 ≤ s ∧ s ≤ 9223372036854775807) {A : Option Addr} {nl c : Nat} (hst : StAt W A nl) : Calls Tryd.prog 3 #[.int .i64 s, .slice A nl c] W fun e w' => e = .returned (.bool true) ∧ Only [] W w' := by
  by_cases hN : 256 ≤ s ∧ s ≤ 65536 ∧ s % 8 = 0
  · obtain ⟨N, rfl⟩ : ∃ N : Nat, s = N := ⟨s.toNat, by omega⟩
    exact (keeps_in hE (by omega) hst).mono fun e w' ⟨he, hb⟩ => ⟨he, Only.ofBelow hb⟩
  · exact (keeps_out hE hN hr).mono fun e w' ⟨he, hb⟩ => ⟨he, Only.ofBelow hb⟩
end
end Go.Proofs.YthlaoanfoimkfaaDoor
