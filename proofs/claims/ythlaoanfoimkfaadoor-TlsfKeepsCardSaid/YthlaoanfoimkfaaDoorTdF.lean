/- Tlsf: its find, Alloc, Free; Aligned begun. No condition but what each theorem says. -/
import Derived.Test.YthlaoanfoimkfaaDoorTdE
namespace Go.Proofs.YthlaoanfoimkfaaDoor
open Go.RowKit
set_option linter.unusedVariables false
set_option linter.all false
set_option maxRecDepth 100000
section
variable {w w' w1 w2 : World} {r gB gM g1 g2 N : Nat} {B B' A C : List Bk} {b : Bk} {L L' : Nat → List Nat} {M M' : List UInt8} {S : List Nat}
variable [HAdd Unit Unit Nat]
theorem floor_call {z : Nat} (w : World) (hz : 16 ≤ z) (hz2 : z < 80000) : Calls Tryd.prog 60 #[.int .i64 ((z : Int) + ((2 ^ Nat.log2 z : Nat) : Int) / 2 - 1)] w fun e w' => e = .returned (.int .i64 (floor z)) ∧ w = w' := by
  obtain ⟨a1, a2, a3⟩ := floor_arg hz hz2
  have := dclass_any w a1 a2
  have hpe : 2 ^ Nat.log2 z = 2 * 2 ^ (Nat.log2 z - 1) := by
    have hf0 : 4 ≤ Nat.log2 z := (Nat.le_log2 (by omega)).2 hz
    obtain ⟨d, hd⟩ : ∃ d, Nat.log2 z = d + 1 := ⟨Nat.log2 z - 1, by omega⟩
    rw [hd, Nat.pow_succ]
    simp
    omega
  have hp0 : 0 < 2 ^ (Nat.log2 z - 1) := Nat.pos_of_ne_zero (by simp)
  rw [show ((z : Int) + ((2 ^ Nat.log2 z : Nat) : Int) / 2 - 1) = ((z + 2 ^ (Nat.log2 z - 1) - 1 : Nat) : Int) by omega]
  exact this
set_option maxHeartbeats 2000000 in
theorem dfind_yes (H : Dr w r gB gM (A ++ b :: C) L M) (hl : (A ++ b :: C).length ≤ 80000) (ht : Tile 112 (A ++ b :: C) N) (hN : N ≤ 65536) (hll : ∀ c, (L c).length ≤ 40000) {z c : Nat} (hz : 16 ≤ z) (hz2 : z < 80000) (hc : FirstC L (floor z) c) (hc32 : c < 32) (hd : (L c).headD 0 = b.at') :
    Calls Tryd.prog 62 #[.pointer (some ⟨r, 0, none⟩), .int .i64 z] w fun e w' => e = .returned (.int .i64 A.length) ∧ DS w r gB gM (A ++ ⟨b.at', b.size, 2⟩ :: C) (rmL L (cls b.size) b.at') M w' := by
  have hpos := ht.pos
  have P := Lib.hid (power_any w hz (by omega))
  have F := Lib.hid (floor_call w hz hz2)
  have NU := number_any H (by omega) ((b.at' : Nat) : Int)
  rw [numB_tile ht] at NU
  have NU := Lib.hid NU
  have OUT := Lib.hid (ds_out (i := A.length) rfl (DS.refl H) (by omega) (by omega) (fun d => by have := hll d; omega))
  have hpl : 2 ^ Nat.log2 z ≤ z := (log2_bounds (by omega)).1
  have HH := Lib.hid H
  obtain ⟨c1, c2, c3⟩ := hc
  have HC := Lib.hid c3
  have HNE := Lib.hid c2
  have HD := Lib.hid hd
  clear H hd c2 c3 hpos
  generalize floor z = f0 at *
  generalize 2 ^ Nat.log2 z = p at *
  generalize Nat.log2 z = q at *
  go_enter Tryd.func62, Tryd.ntmps62
  go_wp2_with (first
    | (go_at_call 84; (with_reducible refine P.out.mono ?_); rintro e w' ⟨rfl, rfl⟩)
    | (go_at_call 60; (with_reducible refine F.out.mono ?_); rintro e w' ⟨rfl, rfl⟩))
  go_loopw [7] (fun vc wr => ∃ k : Nat, f0 ≤ k ∧ k ≤ c ∧ vc = .int .i64 k ∧ w = wr) (fun vc _ => c - (intOf vc).toNat)
  case atStart => exact ⟨f0, Nat.le_refl _, c1, rfl, rfl⟩
  case round =>
    obtain ⟨k, k1, k2, rfl, rfl⟩ := hrel
    obtain ⟨LA, lc, kl, hrow⟩ := HH.out.cL (i := k) (by omega)
    have i0 : (0 : Int) ≤ (k : Int) := by omega
    have i1 : (k : Int) < 32 := by omega
    by_cases hk : k = c
    · subst hk
      have hlen : 0 < (L k).length := List.length_pos_iff.2 HNE.out
      obtain ⟨g, cs, rfl, hgb, hgc, _⟩ := hrow hlen
      have hx0 : (L k)[0]? = some b.at' := by
        have := HD.out
        have hne := HNE.out
        cases hl2 : L k with
        | nil => exact absurd hl2 hne
        | cons a t => rw [hl2] at this; rw [← show a = b.at' from this]; rfl
      have kx : w.cell? ⟨g, 0, none⟩ = some (.int .i64 b.at') := (hgb.cell 0).trans (hgc 0 _ hx0)
      have l0 : (0 : Int) < ((L k).length : Int) := by omega
      clear hrow hgb hgc hx0 hlen
      go_wp2_with (first
        | (go_at_call 85; (with_reducible refine NU.out.mono ?_); rintro e w2 ⟨rfl, rfl⟩)
        | (go_at_call 68; (with_reducible refine OUT.out.mono ?_); rintro e w3 ⟨rfl, D3⟩))
      go_ret
      exact ⟨rfl, D3⟩
    · have hnil := HC.out k k1 (by omega)
      rw [hnil] at kl
      clear hrow hnil
      go_wp2
      go_roundw
      case rel => exact ⟨k + 1, by omega, by omega, by go_num, by first | rfl | trivial⟩
      case measure => first | (simp [intOf]; done) | (simp [intOf]; omega)
set_option maxHeartbeats 2000000 in
theorem dfind_no (H : Dr w r gB gM B L M) {z : Nat} (hz : 16 ≤ z) (hz2 : z < 80000) (hc : ∀ c, floor z ≤ c → L c = []) (hf : floor z < 32) :
    Calls Tryd.prog 62 #[.pointer (some ⟨r, 0, none⟩), .int .i64 z] w fun e w' => e = .returned (.int .i64 (-1)) ∧ w = w' := by
  have P := Lib.hid (power_any w hz (by omega))
  have F := Lib.hid (floor_call w hz hz2)
  have hpl : 2 ^ Nat.log2 z ≤ z := (log2_bounds (by omega)).1
  have HH := Lib.hid H
  have HC := Lib.hid hc
  clear H hc
  generalize floor z = f0 at *
  generalize 2 ^ Nat.log2 z = p at *
  generalize Nat.log2 z = q at *
  go_enter Tryd.func62, Tryd.ntmps62
  go_wp2_with (first
    | (go_at_call 84; (with_reducible refine P.out.mono ?_); rintro e w' ⟨rfl, rfl⟩)
    | (go_at_call 60; (with_reducible refine F.out.mono ?_); rintro e w' ⟨rfl, rfl⟩))
  go_loopw [7] (fun vc wr => ∃ k : Nat, f0 ≤ k ∧ k ≤ 32 ∧ vc = .int .i64 k ∧ w = wr) (fun vc _ => 32 - (intOf vc).toNat)
  case atStart => exact ⟨f0, Nat.le_refl _, by omega, rfl, rfl⟩
  case round =>
    obtain ⟨k, k1, k2, rfl, rfl⟩ := hrel
    by_cases hk : k < 32
    · obtain ⟨LA, lc, kl, hrow⟩ := HH.out.cL (i := k) (by omega)
      have i0 : (0 : Int) ≤ (k : Int) := by omega
      have i1 : (k : Int) < 32 := by omega
      have hnil := HC.out k k1
      rw [hnil] at kl
      clear hrow hnil
      go_wp2
      go_roundw
      case rel => exact ⟨k + 1, by omega, by omega, by go_num, by first | rfl | trivial⟩
      case measure => first | (simp [intOf]; done) | (simp [intOf]; omega)
    · obtain rfl : k = 32 := by omega
      go_wp2
      go_ret
      exact ⟨rfl, rfl⟩
end
end Go.Proofs.YthlaoanfoimkfaaDoor
namespace Go.Proofs.YthlaoanfoimkfaaDoor
open Go.RowKit
set_option linter.unusedVariables false
set_option linter.all false
set_option maxRecDepth 100000
section
variable {w w' w1 w2 : World} {r gB gM g1 g2 N : Nat} {B B' A C : List Bk} {b : Bk} {L L' : Nat → List Nat} {M M' : List UInt8} {S : List Nat}
variable [HAdd Unit Unit Nat]
theorem ds_split_no {i z : Nat} (hi : A.length = i) (h : DS w r gB gM (A ++ b :: C) L M w1) (hl : (A ++ b :: C).length ≤ 90000) (hs : b.size < 65536) (hz : z < 100000) (hlt : b.size - z < 16) :
    Calls Tryd.prog 64 #[.pointer (some ⟨r, 0, none⟩), .int .i64 i, .int .i64 z] w1 fun e w' => e = .returned (.bool false) ∧ DS w r gB gM (A ++ b :: C) L M w' := by
  subst hi
  obtain ⟨g1, h1, h2, h3⟩ := h
  refine (dsplit_no h1 hl hs hz hlt).mono ?_
  rintro e w2 ⟨rfl, rfl⟩
  exact ⟨rfl, g1, h1, h2, h3⟩
theorem ds_split_yes {i z k : Nat} (hi : A.length = i) (h : DS w r gB gM (A ++ b :: C) L M w1) (hl : (A ++ b :: C).length ≤ 90000) (hs : b.size < 65536) (ht : b.at' < 65536) (hlt : 16 ≤ b.size - z) (hk : (b.k == 1) = (k == 1)) :
    Calls Tryd.prog 64 #[.pointer (some ⟨r, 0, none⟩), .int .i64 i, .int .i64 z] w1 fun e w' => e = .returned (.bool true) ∧ DS w r gB gM (A ++ ⟨b.at', z, k⟩ :: ⟨b.at' + z, b.size - z, 2⟩ :: C) L M w' := by
  subst hi
  obtain ⟨g1, h1, h2, h3⟩ := h
  refine (dsplit_yes h1 hl hs ht hlt hk).mono ?_
  rintro e w2 ⟨rfl, o2, g2, hg2, H2⟩
  exact ⟨rfl, DS.next h2 h3 o2 H2 (.inr hg2)⟩
theorem DS.kind {k : Nat} (h : DS w r gB gM (A ++ b :: C) L M w1) (hk : (b.k == 1) = (k == 1)) : DS w r gB gM (A ++ ⟨b.at', b.size, k⟩ :: C) L M w1 := by
  obtain ⟨g1, h1, h2, h3⟩ := h
  exact ⟨g1, h1.kind hk, h2, h3⟩
theorem DS.atOf (h : DS w r gB gM (A ++ b :: C) L M w1) : ∃ g1 n1 c1, w1.cell? ⟨r, 0, none⟩ = some (.slice (some ⟨g1, 0, none⟩) n1 c1) ∧ A.length < n1 ∧ w1.cell? ⟨g1, A.length * 3, none⟩ = some (.int .i64 b.at') ∧ w1.cell? ⟨g1, A.length * 3 + 1, none⟩ = some (.int .i64 b.size) := by
  obtain ⟨g1, h1, h2, h3⟩ := h
  obtain ⟨cB, k0⟩ := h1.cB
  have := h1.bl (mid_get A C b)
  exact ⟨g1, _, _, k0, by simp, this.1, this.2.1⟩
theorem dalloc_bad {n : Int} (hn : ¬ (1 ≤ n ∧ n ≤ 65536)) :
    Calls Tryd.prog 24 #[.pointer (some ⟨r, 0, none⟩), .int .i64 n] w fun e w' => e = .returned (.tuple #[.int .i64 0, .int .i64 2]) ∧ w = w' := by
  have hM := dmay_any n w
  rw [decide_eq_false hn] at hM
  have HM := Lib.hid hM
  clear hM hn
  go_enter Tryd.func24, Tryd.ntmps24
  go_wp2_with (go_at_call 61; (with_reducible refine HM.out.mono ?_); rintro e w' ⟨rfl, rfl⟩)
  go_ret2
  exact ⟨by simp, rfl⟩
theorem dalloc_no {n : Nat} (H : Dr w r gB gM B L M) (h1 : 1 ≤ n) (h2 : n ≤ 65536) (hc : ∀ c, floor (need n) ≤ c → L c = []) :
    Calls Tryd.prog 24 #[.pointer (some ⟨r, 0, none⟩), .int .i64 n] w fun e w' => e = .returned (.tuple #[.int .i64 0, .int .i64 5]) ∧ w = w' := by
  have hM := dmay_any n w
  rw [decide_eq_true (by omega)] at hM
  have HM := Lib.hid hM
  have hn := need_is n
  have hz2 := hn.2.2.2 h2
  have HN := Lib.hid (dneed_any w h2)
  obtain ⟨a1, a2, a3⟩ := floor_arg hn.1 (by omega : need n < 80000)
  have HF := Lib.hid (dfind_no H hn.1 (by omega) hc (by have := cls_le a1 a2; unfold floor; omega))
  clear hM hn hc H hz2 a1 a2 a3
  generalize need n = z at *
  go_enter Tryd.func24, Tryd.ntmps24
  go_wp2_with (first
    | (go_at_call 61; (with_reducible refine HM.out.mono ?_); rintro e w' ⟨rfl, rfl⟩)
    | (go_at_call 63; (with_reducible refine HN.out.mono ?_); rintro e w' ⟨rfl, rfl⟩)
    | (go_at_call 62; (with_reducible refine HF.out.mono ?_); rintro e w' ⟨rfl, rfl⟩))
  go_ret2
  exact ⟨by simp, rfl⟩
set_option maxHeartbeats 2000000 in
theorem dalloc_w1 {n z i t : Nat} {J1 J2 : World → Prop} (hi : i < 100000) (ht : t < 100000) (h1 : 1 ≤ n) (h2 : n ≤ 65536) (hz : need n = z)
    (F : Calls Tryd.prog 62 #[.pointer (some ⟨r, 0, none⟩), .int .i64 z] w fun e w' => e = .returned (.int .i64 i) ∧ J1 w')
    (SP : ∀ w1, J1 w1 → Calls Tryd.prog 64 #[.pointer (some ⟨r, 0, none⟩), .int .i64 i, .int .i64 z] w1 fun e w' => e = .returned (.bool false) ∧ J2 w')
    (AT : ∀ w1, J2 w1 → ∃ g1 n1 c1, w1.cell? ⟨r, 0, none⟩ = some (.slice (some ⟨g1, 0, none⟩) n1 c1) ∧ i < n1 ∧ w1.cell? ⟨g1, i * 3, none⟩ = some (.int .i64 t)) :
    Calls Tryd.prog 24 #[.pointer (some ⟨r, 0, none⟩), .int .i64 n] w fun e w' => e = .returned (.tuple #[.int .i64 (t + 8 : Nat), .int .i64 0]) ∧ J2 w' := by
  have hM := dmay_any n w
  rw [decide_eq_true (by omega)] at hM
  have HM := Lib.hid hM
  have HN : Hid (∀ w, Calls Tryd.prog 63 #[.int .i64 n] w fun e w' => e = .returned (.int .i64 z) ∧ w = w') := Lib.hid fun w => by rw [← hz]; exact dneed_any w h2
  replace F := Lib.hid F
  replace SP := Lib.hid SP
  replace AT := Lib.hid AT
  have i0 : (0 : Int) ≤ (i : Int) := by omega
  have i9 : ¬ (i : Int) < 0 := by omega
  clear hM hz
  go_enter Tryd.func24, Tryd.ntmps24
  go_wp2_with (first
    | (go_at_call 61; (with_reducible refine HM.out.mono ?_); rintro e w' ⟨rfl, rfl⟩)
    | (go_at_call 63; (with_reducible refine (HN.out _).mono ?_); rintro e w' ⟨rfl, rfl⟩)
    | (go_at_call 62; (with_reducible refine F.out.mono ?_); rintro e w1 ⟨rfl, j1⟩)
    | (go_at_call 64; (with_reducible refine (SP.out _ j1).mono ?_); rintro e w2 ⟨rfl, j2⟩; obtain ⟨g1, n1, c1, q0, q1, q2⟩ := AT.out _ j2; have q3 : (i : Int) < (n1 : Int) := (by omega)))
  go_ret2
  exact ⟨by simp, j2⟩
set_option maxHeartbeats 2000000 in
theorem dalloc_w2 {n z i t : Nat} {J1 J2 J3 : World → Prop} (hi : i < 100000) (ht : t < 100000) (h1 : 1 ≤ n) (h2 : n ≤ 65536) (hz : need n = z)
    (F : Calls Tryd.prog 62 #[.pointer (some ⟨r, 0, none⟩), .int .i64 z] w fun e w' => e = .returned (.int .i64 i) ∧ J1 w')
    (SP : ∀ w1, J1 w1 → Calls Tryd.prog 64 #[.pointer (some ⟨r, 0, none⟩), .int .i64 i, .int .i64 z] w1 fun e w' => e = .returned (.bool true) ∧ J2 w')
    (PUT : ∀ w1, J2 w1 → Calls Tryd.prog 22 #[.pointer (some ⟨r, 0, none⟩), .int .i64 ((i : Int) + 1)] w1 fun e w' => e = .returned (.tuple #[]) ∧ J3 w')
    (AT : ∀ w1, J3 w1 → ∃ g1 n1 c1, w1.cell? ⟨r, 0, none⟩ = some (.slice (some ⟨g1, 0, none⟩) n1 c1) ∧ i < n1 ∧ w1.cell? ⟨g1, i * 3, none⟩ = some (.int .i64 t)) :
    Calls Tryd.prog 24 #[.pointer (some ⟨r, 0, none⟩), .int .i64 n] w fun e w' => e = .returned (.tuple #[.int .i64 (t + 8 : Nat), .int .i64 0]) ∧ J3 w' := by
  have hM := dmay_any n w
  rw [decide_eq_true (by omega)] at hM
  have HM := Lib.hid hM
  have HN : Hid (∀ w, Calls Tryd.prog 63 #[.int .i64 n] w fun e w' => e = .returned (.int .i64 z) ∧ w = w') := Lib.hid fun w => by rw [← hz]; exact dneed_any w h2
  replace F := Lib.hid F
  replace SP := Lib.hid SP
  replace PUT := Lib.hid PUT
  replace AT := Lib.hid AT
  have i0 : (0 : Int) ≤ (i : Int) := by omega
  have i9 : ¬ (i : Int) < 0 := by omega
  clear hM hz
  go_enter Tryd.func24, Tryd.ntmps24
  go_wp2_with (first
    | (go_at_call 61; (with_reducible refine HM.out.mono ?_); rintro e w' ⟨rfl, rfl⟩)
    | (go_at_call 63; (with_reducible refine (HN.out _).mono ?_); rintro e w' ⟨rfl, rfl⟩)
    | (go_at_call 62; (with_reducible refine F.out.mono ?_); rintro e w1 ⟨rfl, j1⟩)
    | (go_at_call 64; (with_reducible refine (SP.out _ j1).mono ?_); rintro e w2 ⟨rfl, j2⟩)
    | (go_at_call 22; (with_reducible refine (PUT.out _ j2).mono ?_); rintro e w3 ⟨rfl, j3⟩; obtain ⟨g1, n1, c1, q0, q1, q2⟩ := AT.out _ j3; have q3 : (i : Int) < (n1 : Int) := (by omega)))
  go_ret2
  exact ⟨by simp, j3⟩
/-- A cut, on the document's heap: the walk's two ends. -/
theorem dalloc_yes {n c : Nat} (H : Dr w r gB gM (A ++ b :: C) L M) (hl : (A ++ b :: C).length ≤ 70000) (ht : Tile 112 (A ++ b :: C) N) (hN : N ≤ 65536) (hll : ∀ c, (L c).length ≤ 30000) (h1 : 1 ≤ n) (h2 : n ≤ 65536) (hc : FirstC L (floor (need n)) c) (hc32 : c < 32) (hd : (L c).headD 0 = b.at') :
    Calls Tryd.prog 24 #[.pointer (some ⟨r, 0, none⟩), .int .i64 n] w fun e w' => e = .returned (.tuple #[.int .i64 (b.at' + 8 : Nat), .int .i64 0]) ∧
      DS w r gB gM (cutS false A b.at' b.size (need n) C (rmL L (cls b.size) b.at')).1 (cutS false A b.at' b.size (need n) C (rmL L (cls b.size) b.at')).2 M w' := by
  have hn := need_is n
  have hz2 := hn.2.2.2 h2
  have hpos := ht.pos
  have F := dfind_yes H (by omega) ht hN (fun d => by have := hll d; omega) hn.1 (by omega) hc hc32 hd
  have hr : ∀ d, (rmL L (cls b.size) b.at' d).length ≤ 30000 := fun d => Nat.le_trans (rmL_len _ _ _ _) (hll d)
  simp only [List.length_append, List.length_cons] at hl
  by_cases hlt : b.size - need n < 16
  · have e0 : cutS false A b.at' b.size (need n) C (rmL L (cls b.size) b.at') = (A ++ ⟨b.at', b.size, 0⟩ :: C, rmL L (cls b.size) b.at') := by unfold cutS; rw [if_pos hlt]
    rw [e0]
    refine (dalloc_w1 (i := A.length) (t := b.at') (by omega) (by omega) h1 h2 rfl F (J2 := DS w r gB gM (A ++ ⟨b.at', b.size, 2⟩ :: C) (rmL L (cls b.size) b.at') M)
      (fun w1 j1 => ds_split_no rfl j1 (by simp; omega) (by show b.size < 65536; omega) (by omega) hlt) (fun w1 j2 => by obtain ⟨g1, n1, c1, q0, q1, q2, q3⟩ := j2.atOf; exact ⟨g1, n1, c1, q0, q1, q2⟩)).mono ?_
    rintro e w2 ⟨rfl, j2⟩
    exact ⟨rfl, j2.kind (b := ⟨b.at', b.size, 2⟩) (k := 0) rfl⟩
  · have e0 : cutS false A b.at' b.size (need n) C (rmL L (cls b.size) b.at') = putS (A ++ [⟨b.at', need n, 0⟩]) (b.at' + need n) (b.size - need n) C (rmL L (cls b.size) b.at') := by unfold cutS; rw [if_neg hlt]; rfl
    rw [e0]
    refine (dalloc_w2 (i := A.length) (t := b.at') (by omega) (by omega) h1 h2 rfl F (J2 := DS w r gB gM (A ++ ⟨b.at', need n, 0⟩ :: ⟨b.at' + need n, b.size - need n, 2⟩ :: C) (rmL L (cls b.size) b.at') M)
      (J3 := DS w r gB gM (putS (A ++ [⟨b.at', need n, 0⟩]) (b.at' + need n) (b.size - need n) C (rmL L (cls b.size) b.at')).1 (putS (A ++ [⟨b.at', need n, 0⟩]) (b.at' + need n) (b.size - need n) C (rmL L (cls b.size) b.at')).2 M)
      (fun w1 j1 => ds_split_yes (A := A) (b := ⟨b.at', b.size, 2⟩) (C := C) (k := 0) rfl j1 (by simp; omega) (by show b.size < 65536; omega) (by show b.at' < 65536; omega) (by show 16 ≤ b.size - need n; omega) rfl)
      (fun w1 j2 => by
        have hd : DS w r gB gM ((A ++ [⟨b.at', need n, 0⟩]) ++ ⟨b.at' + need n, b.size - need n, 2⟩ :: C) (rmL L (cls b.size) b.at') M w1 := by simpa using j2
        have := ds_put (i := A.length + 1) (by simp) hd (by simp; omega) (by show 16 ≤ b.size - need n ∧ b.size - need n < 65536; omega) (fun d => by have := hr d; omega)
        push_cast at this
        exact this)
      (fun w1 j3 => by
        have hd : DS w r gB gM (A ++ ⟨b.at', need n, 0⟩ :: ⟨b.at' + need n, b.size - need n, 1⟩ :: C) (insL (rmL L (cls b.size) b.at') (cls (b.size - need n)) (b.at' + need n)) M w1 := by simpa [putS] using j3
        obtain ⟨g1, n1, c1, q0, q1, q2, q3⟩ := hd.atOf
        exact ⟨g1, n1, c1, q0, q1, q2⟩))
theorem dfreeO_no (H : Dr w r gB gM B L M) (hl : B.length ≤ 100000) (ht : Tile 112 B N) (hall : ∀ b ∈ B, b.k ≤ 1) {x : Int} (hx : NoPiece B x) (hb : -9223372036854775808 ≤ x ∧ x ≤ 9223372036854775807) :
    Calls Tryd.prog 29 #[.pointer (some ⟨r, 0, none⟩), .int .i64 x] w fun e w' => e = .returned (.int .i64 6) ∧ w = w' := by
  have PI := Lib.hid (dpiece_no H hl ht hall hx hb)
  clear H ht hx
  go_enter Tryd.func29, Tryd.ntmps29
  go_wp2_with (go_at_call 66; (with_reducible refine PI.out.mono ?_); rintro e w' ⟨rfl, rfl⟩)
  go_ret
  exact ⟨rfl, rfl⟩
theorem dfreeO_yes (H : Dr w r gB gM (A ++ b :: C) L M) (ht : Tile 112 (A ++ b :: C) N) (hN : N ≤ 65536) (hk : b.k ≠ 1) (hn : ∀ y ∈ A ++ C, y.k ≤ 1) (hl : (A ++ b :: C).length ≤ 80000) (hll : ∀ c, (L c).length ≤ 40000) :
    Calls Tryd.prog 29 #[.pointer (some ⟨r, 0, none⟩), .int .i64 (b.at' + 8 : Nat)] w fun e w' => e = .returned (.int .i64 0) ∧ DS w r gB gM (freeS A b.at' b.size C L).1 (freeS A b.at' b.size C L).2 M w' := by
  have PI := Lib.hid (dpiece_yes H (by omega) ht hN hk)
  have FR := Lib.hid (dfree_any H ht hN hk hn hl hll)
  have i0 : ¬ (A.length : Int) < 0 := by omega
  clear H ht hn hl
  generalize b.at' + 8 = x at *
  generalize A.length = i at *
  go_enter Tryd.func29, Tryd.ntmps29
  go_wp2_with (first
    | (go_at_call 66; (with_reducible refine PI.out.mono ?_); rintro e w' ⟨rfl, rfl⟩)
    | (go_at_call 67; (with_reducible refine FR.out.mono ?_); rintro e w2 ⟨rfl, D2⟩))
  go_ret
  exact ⟨rfl, D2⟩
end
end Go.Proofs.YthlaoanfoimkfaaDoor
namespace Go.Proofs.YthlaoanfoimkfaaDoor
open Go.RowKit
set_option linter.unusedVariables false
set_option linter.all false
set_option maxRecDepth 100000
/-- Where the piece stands: at the block's first bytes, or behind a block put ahead. -/
def tgt (q p : Nat) : Nat := if (p + 8) % q = 0 then p + 8 else up q (p + 24)
theorem up_is {q n : Nat} (hq : 0 < q) : up q n % q = 0 ∧ n ≤ up q n ∧ up q n < n + q ∧ ∀ x, n ≤ x → x < up q n → x % q ≠ 0 := by
  unfold up
  have h0 := Nat.div_add_mod (n + q - 1) q
  have h1 := Nat.mod_lt (n + q - 1) hq
  rw [Nat.mul_comm] at h0
  refine ⟨Nat.mul_mod_left _ _, by omega, by omega, fun x hx hl hm => ?_⟩
  obtain ⟨d, rfl⟩ := Nat.dvd_of_mod_eq_zero hm
  rw [Nat.mul_comm] at hx hl
  have hd : d < (n + q - 1) / q := Nat.lt_of_mul_lt_mul_right hl
  have hd2 : (d + 1) * q ≤ (n + q - 1) / q * q := Nat.mul_le_mul_right q hd
  rw [Nat.add_mul] at hd2
  omega
theorem tgt_go {q p x : Nat} (hq : 0 < q) (h1 : p + 8 ≤ x) (h2 : x < tgt q p) : x % q ≠ 0 ∨ (p + 8 < x ∧ x < p + 24) := by
  unfold tgt at h2
  by_cases h : (p + 8) % q = 0
  · rw [if_pos h] at h2; omega
  · rw [if_neg h] at h2
    by_cases e : x = p + 8
    · left; rw [e]; exact h
    · by_cases hx : x < p + 24
      · right; omega
      · left; exact (up_is hq).2.2.2 x (by omega) h2
theorem tgt_end {q p : Nat} (hq : 0 < q) : tgt q p % q = 0 ∧ ¬ (p + 8 < tgt q p ∧ tgt q p < p + 24) ∧ p + 8 ≤ tgt q p ∧ tgt q p < p + 24 + q := by
  unfold tgt
  by_cases h : (p + 8) % q = 0
  · rw [if_pos h]; exact ⟨h, by omega, by omega, by omega⟩
  · rw [if_neg h]
    have := up_is (n := p + 24) hq
    exact ⟨this.1, by omega, by omega, by omega⟩
theorem pow_inj2 {j k : Nat} (h : 2 ^ j = 2 ^ k) : j = k := by
  rcases Nat.lt_trichotomy j k with q | q | q
  · have := pow_mono q; have : 0 < 2 ^ j := Nat.pos_of_ne_zero (by simp); omega
  · exact q
  · have := pow_mono q; have : 0 < 2 ^ k := Nat.pos_of_ne_zero (by simp); omega
section
variable {w w' w1 w2 : World} {r gB gM g1 g2 N : Nat} {B B' A C : List Bk} {b : Bk} {L L' : Nat → List Nat} {M M' : List UInt8} {S : List Nat}
set_option maxHeartbeats 2000000 in
theorem dalig_bad1 {q n : Int} (hq : ∀ j, 3 ≤ j → j ≤ 12 → ((2 ^ j : Nat) : Int) ≠ q) :
    Calls Tryd.prog 28 #[.pointer (some ⟨r, 0, none⟩), .int .i64 q, .int .i64 n] w fun e w' => e = .returned (.tuple #[.int .i64 0, .int .i64 2]) ∧ w = w' := by
  go_enter Tryd.func28, Tryd.ntmps28
  go_wp2
  go_loopw [8, 9] (fun vg vp wr => ∃ j p : Nat, 3 ≤ j ∧ j ≤ 13 ∧ p = 2 ^ j ∧ vp = .int .i64 p ∧ vg = .bool false ∧ w = wr) (fun _ vp _ => 8192 - (intOf vp).toNat)
  case atStart => exact ⟨3, 8, by omega, by omega, rfl, rfl, rfl, rfl⟩
  case round =>
    obtain ⟨j, p, j1, j2, hp, rfl, rfl, rfl⟩ := hrel
    by_cases hj : j ≤ 12
    · have hpl : p ≤ 2 ^ 12 := by rw [hp]; exact Nat.pow_le_pow_right (by omega) hj
      have hp0 : 2 ^ 3 ≤ p := by rw [hp]; exact Nat.pow_le_pow_right (by omega) j1
      have hle : (p : Int) ≤ 4096 := by omega
      have hne : ((p : Int) == q) = false := by
        have := hq j j1 hj
        rw [← hp] at this
        simpa using this
      have HP := Lib.hid hp
      clear hp hq
      go_wp2
      go_roundw
      case rel => exact ⟨j + 1, p * 2, by omega, by omega, by rw [HP.out, Nat.pow_succ], by go_num, rfl, by first | rfl | trivial⟩
      case measure => first | (simp [intOf]; done) | (simp [intOf]; omega)
    · obtain rfl : j = 13 := by omega
      have hgt : ¬ (p : Int) ≤ 4096 := by rw [hp]; decide
      have hpb : p < 10000 := by rw [hp]; decide
      clear hp hq
      go_wp2
      go_ret2
      exact ⟨by simp, rfl⟩
set_option maxHeartbeats 2000000 in
theorem dalig_bad2 {q k : Nat} {n : Int} (hk : 3 ≤ k ∧ k ≤ 12) (hq : q = 2 ^ k) (hn : ¬ (1 ≤ n ∧ n ≤ 65536)) :
    Calls Tryd.prog 28 #[.pointer (some ⟨r, 0, none⟩), .int .i64 q, .int .i64 n] w fun e w' => e = .returned (.tuple #[.int .i64 0, .int .i64 2]) ∧ w = w' := by
  have HM : Hid (∀ w, Calls Tryd.prog 61 #[.int .i64 n] w fun e w' => e = .returned (.bool false) ∧ w = w') := Lib.hid fun w => by have := dmay_any n w; rw [decide_eq_false hn] at this; exact this
  have HQ := Lib.hid hq
  clear hq hn
  go_enter Tryd.func28, Tryd.ntmps28
  go_wp2
  go_loopw [8, 9] (fun vg vp wr => ∃ j p : Nat, 3 ≤ j ∧ j ≤ 13 ∧ p = 2 ^ j ∧ vp = .int .i64 p ∧ vg = .bool (decide (k < j)) ∧ w = wr) (fun _ vp _ => 8192 - (intOf vp).toNat)
  case atStart => exact ⟨3, 8, by omega, by omega, rfl, rfl, by rw [decide_eq_false (by omega)], rfl⟩
  case round =>
    obtain ⟨j, p, j1, j2, hp, rfl, rfl, rfl⟩ := hrel
    by_cases hj : j ≤ 12
    · have hpl : p ≤ 2 ^ 12 := by rw [hp]; exact Nat.pow_le_pow_right (by omega) hj
      have hp0 : 2 ^ 3 ≤ p := by rw [hp]; exact Nat.pow_le_pow_right (by omega) j1
      have hle : (p : Int) ≤ 4096 := by omega
      by_cases hkj : k < j
      · have hd : decide (k < j) = true := decide_eq_true hkj
        have HP := Lib.hid hp
        clear hp
        rw [hd]
        go_wp2
        go_roundw
        case rel => exact ⟨j + 1, p * 2, by omega, by omega, by rw [HP.out, Nat.pow_succ], by go_num, by rw [decide_eq_true (by omega : k < j + 1)], by first | rfl | trivial⟩
        case measure => first | (simp [intOf]; done) | (simp [intOf]; omega)
      · have hd : decide (k < j) = false := decide_eq_false hkj
        rw [hd]
        by_cases hjk : j = k
        · have heq : ((p : Int) == (q : Int)) = true := by rw [hp, HQ.out, hjk]; simp
          have HP := Lib.hid hp
          clear hp
          go_wp2
          go_roundw
          case rel => exact ⟨j + 1, p * 2, by omega, by omega, by rw [HP.out, Nat.pow_succ], by go_num, by rw [decide_eq_true (by omega : k < j + 1)], by first | rfl | trivial⟩
          case measure => first | (simp [intOf]; done) | (simp [intOf]; omega)
        · have heq : ((p : Int) == (q : Int)) = false := by
            have : p ≠ q := by rw [hp, HQ.out]; exact fun e => hjk (pow_inj2 e)
            simp; omega
          have HP := Lib.hid hp
          clear hp
          go_wp2
          go_roundw
          case rel => exact ⟨j + 1, p * 2, by omega, by omega, by rw [HP.out, Nat.pow_succ], by go_num, by rw [decide_eq_false (by omega : ¬ k < j + 1)], by first | rfl | trivial⟩
          case measure => first | (simp [intOf]; done) | (simp [intOf]; omega)
    · obtain rfl : j = 13 := by omega
      have hgt : ¬ (p : Int) ≤ 4096 := by rw [hp]; decide
      have hpb : p < 10000 := by rw [hp]; decide
      have hd : decide (k < 13) = true := decide_eq_true (by omega)
      rw [hd]
      clear hp
      go_wp2_with (go_at_call 61; (with_reducible refine (HM.out _).mono ?_); rintro e w' ⟨rfl, rfl⟩)
      go_ret2
      exact ⟨by simp, rfl⟩
set_option maxHeartbeats 2000000 in
theorem dalig_w0 {q k n z : Nat} (hk : 3 ≤ k ∧ k ≤ 12) (hq : q = 2 ^ k) (h1 : 1 ≤ n) (h2 : n ≤ 65536) (hz : need n = z) (hzb : z < 70000)
    (F : Calls Tryd.prog 62 #[.pointer (some ⟨r, 0, none⟩), .int .i64 ((z : Int) + (q : Int) + 16)] w fun e w' => e = .returned (.int .i64 (-1)) ∧ w = w') :
    Calls Tryd.prog 28 #[.pointer (some ⟨r, 0, none⟩), .int .i64 q, .int .i64 n] w fun e w' => e = .returned (.tuple #[.int .i64 0, .int .i64 5]) ∧ w = w' := by
  have HM : Hid (∀ w, Calls Tryd.prog 61 #[.int .i64 n] w fun e w' => e = .returned (.bool true) ∧ w = w') := Lib.hid fun w => by have := dmay_any n w; rw [decide_eq_true (by omega)] at this; exact this
  have HN : Hid (∀ w, Calls Tryd.prog 63 #[.int .i64 n] w fun e w' => e = .returned (.int .i64 z) ∧ w = w') := Lib.hid fun w => by rw [← hz]; exact dneed_any w h2
  have hqb : q ≤ 2 ^ 12 := by rw [hq]; exact Nat.pow_le_pow_right (by omega) hk.2
  have HQ := Lib.hid hq
  replace F := Lib.hid F
  clear hq hz
  go_enter Tryd.func28, Tryd.ntmps28
  go_wp2
  go_loopw [8, 9] (fun vg vp wr => ∃ j p : Nat, 3 ≤ j ∧ j ≤ 13 ∧ p = 2 ^ j ∧ vp = .int .i64 p ∧ vg = .bool (decide (k < j)) ∧ w = wr) (fun _ vp _ => 8192 - (intOf vp).toNat)
  case atStart => exact ⟨3, 8, by omega, by omega, rfl, rfl, by rw [decide_eq_false (by omega)], rfl⟩
  case round =>
    obtain ⟨j, p, j1, j2, hp, rfl, rfl, rfl⟩ := hrel
    by_cases hj : j ≤ 12
    · have hpl : p ≤ 2 ^ 12 := by rw [hp]; exact Nat.pow_le_pow_right (by omega) hj
      have hp0 : 2 ^ 3 ≤ p := by rw [hp]; exact Nat.pow_le_pow_right (by omega) j1
      have hle : (p : Int) ≤ 4096 := by omega
      by_cases hkj : k < j
      · have hd : decide (k < j) = true := decide_eq_true hkj
        have HP := Lib.hid hp
        clear hp
        rw [hd]
        go_wp2
        go_roundw
        case rel => exact ⟨j + 1, p * 2, by omega, by omega, by rw [HP.out, Nat.pow_succ], by go_num, by rw [decide_eq_true (by omega : k < j + 1)], by first | rfl | trivial⟩
        case measure => first | (simp [intOf]; done) | (simp [intOf]; omega)
      · have hd : decide (k < j) = false := decide_eq_false hkj
        rw [hd]
        by_cases hjk : j = k
        · have heq : ((p : Int) == (q : Int)) = true := by rw [hp, HQ.out, hjk]; simp
          have HP := Lib.hid hp
          clear hp
          go_wp2
          go_roundw
          case rel => exact ⟨j + 1, p * 2, by omega, by omega, by rw [HP.out, Nat.pow_succ], by go_num, by rw [decide_eq_true (by omega : k < j + 1)], by first | rfl | trivial⟩
          case measure => first | (simp [intOf]; done) | (simp [intOf]; omega)
        · have heq : ((p : Int) == (q : Int)) = false := by
            have : p ≠ q := by rw [hp, HQ.out]; exact fun e => hjk (pow_inj2 e)
            simp; omega
          have HP := Lib.hid hp
          clear hp
          go_wp2
          go_roundw
          case rel => exact ⟨j + 1, p * 2, by omega, by omega, by rw [HP.out, Nat.pow_succ], by go_num, by rw [decide_eq_false (by omega : ¬ k < j + 1)], by first | rfl | trivial⟩
          case measure => first | (simp [intOf]; done) | (simp [intOf]; omega)
    · obtain rfl : j = 13 := by omega
      have hgt : ¬ (p : Int) ≤ 4096 := by rw [hp]; decide
      have hpb : p < 10000 := by rw [hp]; decide
      have hd : decide (k < 13) = true := decide_eq_true (by omega)
      rw [hd]
      clear hp
      go_wp2_with (first
        | (go_at_call 61; (with_reducible refine (HM.out _).mono ?_); rintro e w' ⟨rfl, rfl⟩)
        | (go_at_call 63; (with_reducible refine (HN.out _).mono ?_); rintro e w' ⟨rfl, rfl⟩)
        | (go_at_call 62; (with_reducible refine F.out.mono ?_); rintro e w' ⟨rfl, rfl⟩))
      go_ret2
      exact ⟨by simp, rfl⟩
end
end Go.Proofs.YthlaoanfoimkfaaDoor
