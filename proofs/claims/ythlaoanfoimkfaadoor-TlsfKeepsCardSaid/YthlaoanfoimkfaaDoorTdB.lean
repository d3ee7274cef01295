/- Tlsf: its pieces, bytes. No condition but what each theorem says. -/
import Derived.Test.YthlaoanfoimkfaaDoorTdA
import Derived.Test.YthlaoanfoimkfaaDoorTiB
import Derived.BigQuiet
namespace Go.Proofs.YthlaoanfoimkfaaDoor
open Go.RowKit
set_option linter.unusedVariables false
set_option linter.all false
set_option maxRecDepth 100000
section
variable {w w' : World} {r gB gM N : Nat} {B A C : List Bk} {b : Bk} {L : Nat → List Nat} {M : List UInt8} {S : List Nat}
variable [HAdd Unit Unit Nat]
theorem mid_get (A C : List Bk) (b : Bk) : (A ++ b :: C)[A.length]? = some b := by simp
theorem numB_tile (ht : Tile 112 (A ++ b :: C) N) : numB (A ++ b :: C) b.at' = A.length := numB_mid (fun y hy => by have := ht.pos.2.2.2.2.2.2.2.1 y hy; omega) rfl
theorem dpiece_yes (H : Dr w r gB gM (A ++ b :: C) L M) (hl : (A ++ b :: C).length ≤ 100000) (ht : Tile 112 (A ++ b :: C) N) (hN : N ≤ 65536) (hk : b.k ≠ 1) :
    Calls Tryd.prog 66 #[.pointer (some ⟨r, 0, none⟩), .int .i64 (b.at' + 8 : Nat)] w fun e w' => e = .returned (.int .i64 A.length) ∧ w = w' := by
  have hp := ht.pos
  have NU := number_any H hl ((b.at' : Nat) : Int)
  rw [numB_tile ht] at NU
  have NU : Calls Tryd.prog 85 #[.pointer (some ⟨r, 0, none⟩), .int .i64 (((b.at' + 8 : Nat) : Int) - 8)] w fun e w' => e = .returned (.int .i64 A.length) ∧ w = w' := by
    rw [show (((b.at' + 8 : Nat) : Int) - 8) = (b.at' : Nat) by omega]; exact NU
  have hfr := (H.bl (mid_get A C b)).2.2
  rw [show (b.k == 1) = false by simp [hk]] at hfr
  obtain ⟨cB, k0⟩ := H.cB
  have i0 : (0 : Int) ≤ (A.length : Int) := by omega
  have i1 : (A.length : Int) < ((A ++ b :: C).length : Int) := by simp; omega
  have hx : ¬ ((b.at' + 8 : Nat) : Int) < 8 := by omega
  have hxb : b.at' + 8 < 100000 := by omega
  generalize (A ++ b :: C).length = n at *
  generalize A.length = i at *
  generalize b.at' + 8 = x at *
  replace NU := Lib.hid NU
  clear H ht hp
  go_enter Tryd.func66, Tryd.ntmps66
  go_wp2_with (go_at_call 85; (with_reducible refine NU.out.mono ?_); rintro e w' ⟨rfl, rfl⟩)
  go_ret
  exact ⟨rfl, rfl⟩
theorem dpiece_no (H : Dr w r gB gM B L M) (hl : B.length ≤ 100000) (ht : Tile 112 B N) (hall : ∀ b ∈ B, b.k ≤ 1) {x : Int} (hx : NoPiece B x) (hb : -9223372036854775808 ≤ x ∧ x ≤ 9223372036854775807) :
    Calls Tryd.prog 66 #[.pointer (some ⟨r, 0, none⟩), .int .i64 x] w fun e w' => e = .returned (.int .i64 (-1)) ∧ w = w' := by
  by_cases h8 : x < 8
  · clear H hx
    go_enter Tryd.func66, Tryd.ntmps66
    go_wp2
    go_ret
    exact ⟨rfl, rfl⟩
  · by_cases hex : ∃ b ∈ B, (b.at' : Int) = x - 8
    · obtain ⟨b, hbm, e⟩ := hex
      obtain ⟨A, C, rfl⟩ := List.append_of_mem hbm
      have hk : b.k = 1 := by
        have := hall b (by simp)
        rcases (by omega : b.k = 0 ∨ b.k = 1) with q | q
        · exact absurd (by push_cast; omega) (hx (b.at' + 8) (mem_used.2 ⟨b, by simp, q, rfl⟩))
        · exact q
      have NU := number_any H hl (x - 8)
      rw [← e, numB_tile ht, e] at NU
      have hfr := (H.bl (mid_get A C b)).2.2
      rw [show (b.k == 1) = true by simp [hk]] at hfr
      obtain ⟨cB, k0⟩ := H.cB
      have i0 : (0 : Int) ≤ (A.length : Int) := by omega
      have i1 : (A.length : Int) < ((A ++ b :: C).length : Int) := by simp; omega
      generalize (A ++ b :: C).length = n at *
      generalize A.length = i at *
      replace NU := Lib.hid NU
      clear H ht hx e
      go_enter Tryd.func66, Tryd.ntmps66
      go_wp2_with (go_at_call 85; (with_reducible refine NU.out.mono ?_); rintro e w' ⟨rfl, rfl⟩)
      go_ret
      exact ⟨rfl, rfl⟩
    · have NU := number_any H hl (x - 8)
      rw [numB_none (fun y hy e => hex ⟨y, hy, e⟩)] at NU
      replace NU := Lib.hid NU
      clear H hx hex ht
      go_enter Tryd.func66, Tryd.ntmps66
      go_wp2_with (go_at_call 85; (with_reducible refine NU.out.mono ?_); rintro e w' ⟨rfl, rfl⟩)
      go_ret
      exact ⟨rfl, rfl⟩
theorem dsize_yes (H : Dr w r gB gM (A ++ b :: C) L M) (hl : (A ++ b :: C).length ≤ 100000) (ht : Tile 112 (A ++ b :: C) N) (hN : N ≤ 65536) (hk : b.k ≠ 1) :
    Calls Tryd.prog 30 #[.pointer (some ⟨r, 0, none⟩), .int .i64 (b.at' + 8 : Nat)] w fun e w' => e = .returned (.tuple #[.int .i64 (b.size - 8 : Nat), .int .i64 0]) ∧ w = w' := by
  have hp := ht.pos
  have PI := Lib.hid (dpiece_yes H hl ht hN hk)
  have hfr := (H.bl (mid_get A C b)).2.1
  obtain ⟨cB, k0⟩ := H.cB
  have i0 : (0 : Int) ≤ (A.length : Int) := by omega
  have i1 : (A.length : Int) < ((A ++ b :: C).length : Int) := by simp; omega
  have e1 : ((b.size - 8 : Nat) : Int) = (b.size : Int) - 8 := by omega
  rw [e1]
  have hsb : b.size < 100000 := by omega
  generalize (A ++ b :: C).length = n at *
  generalize A.length = i at *
  generalize b.at' + 8 = x at *
  clear H ht hp e1
  go_enter Tryd.func30, Tryd.ntmps30
  go_wp2_with (go_at_call 66; (with_reducible refine PI.out.mono ?_); rintro e w' ⟨rfl, rfl⟩)
  go_ret2
  exact ⟨by simp, rfl⟩
theorem dsize_no (H : Dr w r gB gM B L M) (hl : B.length ≤ 100000) (ht : Tile 112 B N) (hall : ∀ b ∈ B, b.k ≤ 1) {x : Int} (hx : NoPiece B x) (hb : -9223372036854775808 ≤ x ∧ x ≤ 9223372036854775807) :
    Calls Tryd.prog 30 #[.pointer (some ⟨r, 0, none⟩), .int .i64 x] w fun e w' => e = .returned (.tuple #[.int .i64 0, .int .i64 6]) ∧ w = w' := by
  have PI := Lib.hid (dpiece_no H hl ht hall hx hb)
  clear H ht hx
  go_enter Tryd.func30, Tryd.ntmps30
  go_wp2_with (go_at_call 66; (with_reducible refine PI.out.mono ?_); rintro e w' ⟨rfl, rfl⟩)
  go_ret2
  exact ⟨by simp, rfl⟩
theorem leftN_cons (b : Bk) (B : List Bk) : leftN (b :: B) = (if b.k = 1 then b.size - 8 else 0) + leftN B := by simp [leftN]
set_option maxHeartbeats 1000000 in
theorem dleft_any (H : Dr w r gB gM B L M) (hl : B.length ≤ 100000) (ht : Tile 112 B N) (hN : N ≤ 65536) : Calls Tryd.prog 39 #[.pointer (some ⟨r, 0, none⟩)] w fun e w' => e = .returned (.int .i64 (leftN B)) ∧ w = w' := by
  have HH := Lib.hid H
  have HT := Lib.hid ht
  clear H ht
  go_enter Tryd.func39, Tryd.ntmps39
  go_wp2
  go_loopw [3, 4] (fun vn vi wr => ∃ i n : Nat, i ≤ B.length ∧ vi = .int .i64 i ∧ vn = .int .i64 n ∧ w = wr ∧ n = leftN (B.take i)) (fun _ vi _ => B.length - (intOf vi).toNat)
  case atStart => exact ⟨0, 0, Nat.zero_le _, rfl, rfl, rfl, rfl⟩
  case round =>
    obtain ⟨i, n, hi, rfl, rfl, rfl, hn⟩ := hrel
    obtain ⟨cB, k0⟩ := HH.out.cB
    by_cases hlt : i < B.length
    · have hj : B[i]? = some B[i] := List.getElem?_eq_getElem hlt
      have kb := (HH.out.bl hj).2
      have i0 : (0 : Int) ≤ (i : Int) := by omega
      have i1 : (i : Int) < (B.length : Int) := by omega
      obtain ⟨b, hb⟩ : ∃ b, B[i] = b := ⟨_, rfl⟩
      have hbm := Tile.mem HT.out B[i] (List.getElem_mem hlt)
      rw [hb] at kb hbm
      have htk : B.take (i + 1) = B.take i ++ [b] := by rw [List.take_add_one, List.getElem?_eq_getElem hlt, hb]; rfl
      have hle := leftN_le HT.out (List.take_prefix i B)
      rw [← hn] at hle
      have hq : leftN (B.take (i + 1)) = n + (if b.k = 1 then b.size - 8 else 0) := by rw [htk, leftN_app, hn]
      obtain ⟨kb1, kb2⟩ := kb
      have HQ := Lib.hid hq
      clear hj hb htk hn hq
      by_cases hk : b.k = 1
      · rw [show (b.k == 1) = true by simp [hk]] at kb2
        have e2 : ((n : Int) + (b.size : Int) - 8) = ((n + (b.size - 8) : Nat) : Int) := by omega
        go_wp2
        go_roundw
        case rel => exact ⟨i + 1, n + (b.size - 8), by omega, by go_num, by first | (simp; omega) | go_num, by first | rfl | trivial, by rw [HQ.out, if_pos hk]⟩
        case measure => simp [intOf]; omega
      · rw [show (b.k == 1) = false by simp [hk]] at kb2
        go_wp2
        go_roundw
        case rel => exact ⟨i + 1, n, by omega, by go_num, rfl, by first | rfl | trivial, by rw [HQ.out, if_neg hk]; rfl⟩
        case measure => simp [intOf]; omega
    · obtain rfl : i = B.length := by omega
      have HN := Lib.hid hn
      clear hn
      go_wp2
      go_ret
      exact ⟨by have := HN.out; rw [List.take_length] at this; rw [← this]; rfl, rfl⟩
set_option maxHeartbeats 1000000 in
theorem dlen_any (H : Dr w r gB gM B L M) (hl : B.length ≤ 100000) (hall : ∀ b ∈ B, b.k ≤ 1) : Calls Tryd.prog 41 #[.pointer (some ⟨r, 0, none⟩)] w fun e w' => e = .returned (.int .i64 (used B).length) ∧ w = w' := by
  have HH := Lib.hid H
  have HA := Lib.hid hall
  clear H hall
  go_enter Tryd.func41, Tryd.ntmps41
  go_wp2
  go_loopw [3, 4] (fun vn vi wr => ∃ i n : Nat, i ≤ B.length ∧ vi = .int .i64 i ∧ vn = .int .i64 n ∧ w = wr ∧ n = (used (B.take i)).length ∧ n ≤ i) (fun _ vi _ => B.length - (intOf vi).toNat)
  case atStart => exact ⟨0, 0, Nat.zero_le _, rfl, rfl, rfl, rfl, Nat.le_refl _⟩
  case round =>
    obtain ⟨i, n, hi, rfl, rfl, rfl, hn, hni⟩ := hrel
    obtain ⟨cB, k0⟩ := HH.out.cB
    by_cases hlt : i < B.length
    · have hj : B[i]? = some B[i] := List.getElem?_eq_getElem hlt
      have kb2 := (HH.out.bl hj).2.2
      have i0 : (0 : Int) ≤ (i : Int) := by omega
      have i1 : (i : Int) < (B.length : Int) := by omega
      have hkk := HA.out B[i] (List.getElem_mem hlt)
      obtain ⟨b, hb⟩ : ∃ b, B[i] = b := ⟨_, rfl⟩
      rw [hb] at kb2 hkk
      have htk : B.take (i + 1) = B.take i ++ [b] := by rw [List.take_add_one, List.getElem?_eq_getElem hlt, hb]; rfl
      have hq : (used (B.take (i + 1))).length = n + (if b.k = 0 then 1 else 0) := by
        rw [htk, used_app, List.length_append, ← hn, used_cons]
        split <;> simp [used_nil]
      have HQ := Lib.hid hq
      clear hj hb htk hn hq
      by_cases hk : b.k = 1
      · rw [show (b.k == 1) = true by simp [hk]] at kb2
        go_wp2
        go_roundw
        case rel => exact ⟨i + 1, n, by omega, by go_num, rfl, by first | rfl | trivial, by rw [HQ.out, if_neg (by omega)]; rfl, by omega⟩
        case measure => simp [intOf]; omega
      · rw [show (b.k == 1) = false by simp [hk]] at kb2
        go_wp2
        go_roundw
        case rel => exact ⟨i + 1, n + 1, by omega, by go_num, by go_num, by first | rfl | trivial, by rw [HQ.out, if_pos (by omega)], by omega⟩
        case measure => simp [intOf]; omega
    · obtain rfl : i = B.length := by omega
      have HN := Lib.hid hn
      clear hn
      go_wp2
      go_ret
      exact ⟨by have := HN.out; rw [List.take_length] at this; rw [← this]; rfl, rfl⟩
end
end Go.Proofs.YthlaoanfoimkfaaDoor
namespace Go.Proofs.YthlaoanfoimkfaaDoor
open Go.RowKit
set_option linter.unusedVariables false
set_option linter.all false
set_option maxRecDepth 100000
section
variable {w w' : World} {r gB gM N : Nat} {B A C : List Bk} {b : Bk} {L : Nat → List Nat} {M : List UInt8} {S : List Nat}
variable [HAdd Unit Unit Nat]
theorem inB_false {o : Int} (h : ∀ b ∈ B, ¬ (b.k = 0 ∧ (b.at' : Int) + 8 ≤ o ∧ o < (b.at' : Int) + b.size)) : inB B o = false := by
  unfold inB
  have : B.any (fun b => decide (b.k = 0 ∧ (b.at' : Int) + 8 ≤ o ∧ o < (b.at' : Int) + b.size)) = false := by
    rw [List.any_eq_false]
    intro b hb
    simpa using h b hb
  rw [this]; simp
theorem inB_true {o : Int} (h4 : o % 4 = 0) (hb : b ∈ B) (h : b.k = 0 ∧ (b.at' : Int) + 8 ≤ o ∧ o < (b.at' : Int) + b.size) : inB B o = true := by
  unfold inB
  rw [Bool.and_eq_true]
  exact ⟨decide_eq_true h4, List.any_eq_true.2 ⟨b, hb, decide_eq_true h⟩⟩
set_option maxHeartbeats 2000000 in
theorem din_any (H : Dr w r gB gM B L M) (hl : B.length ≤ 100000) (hall : ∀ b ∈ B, b.k ≤ 1) (ht : Tile 112 B N) (hN : N ≤ 65536) (o : Int) (hob : -9223372036854775808 ≤ o ∧ o < 9223372036854775808) :
    Calls Tryd.prog 33 #[.pointer (some ⟨r, 0, none⟩), .int .i64 o] w fun e w' => e = .returned (.bool (inB B o)) ∧ Only [] w w' := by
  have HH := Lib.hid H
  have HA := Lib.hid hall
  have HT := Lib.hid ht
  by_cases h0 : o < 0
  · have hf : inB B o = false := inB_false (fun b hb => by omega)
    rw [hf]
    clear H hall ht hf
    go_enter Tryd.func33, Tryd.ntmps33
    go_wp2
    go_ret
    exact ⟨rfl, Only.refl _ _⟩
  obtain ⟨n, rfl⟩ := Int.eq_ofNat_of_zero_le (by omega : 0 ≤ o)
  by_cases h4 : n % 4 = 0
  · have hq4 : ((n : Int) % 4 == 0) = true := by simp; omega
    have hq4' : (n : Int) % 4 = 0 := by omega
    clear H hall ht
    go_enter Tryd.func33, Tryd.ntmps33
    go_wp2
    go_loopw [5] (fun vi wr => ∃ i : Nat, i ≤ B.length ∧ vi = .int .i64 i ∧ Hid (Only [] w wr) ∧ (∀ y ∈ B.take i, ¬ (y.k = 0 ∧ (y.at' : Int) + 8 ≤ (n : Int) ∧ (n : Int) < (y.at' : Int) + y.size))) (fun vi _ => B.length - (intOf vi).toNat)
    case atStart => exact ⟨0, Nat.zero_le _, rfl, Lib.hid (Only.refl _ _), fun y hy => by simp at hy⟩
    case round =>
      obtain ⟨i, hi, rfl, ho, hn⟩ := hrel
      have HW := HH.out.only0 ho.out
      obtain ⟨cB, k0⟩ := HW.cB
      by_cases hlt : i < B.length
      · have hj : B[i]? = some B[i] := List.getElem?_eq_getElem hlt
        obtain ⟨kb0, kb1, kb2⟩ := HW.bl hj
        have i0 : (0 : Int) ≤ (i : Int) := by omega
        have i1 : (i : Int) < (B.length : Int) := by omega
        have hbm := Tile.mem HT.out B[i] (List.getElem_mem hlt)
        have hkk := HA.out B[i] (List.getElem_mem hlt)
        have hmem := Lib.hid (List.getElem_mem hlt)
        have htk : B.take (i + 1) = B.take i ++ [B[i]] := by rw [List.take_add_one, List.getElem?_eq_getElem hlt]; rfl
        obtain ⟨b, hb⟩ : ∃ b, B[i] = b := ⟨_, rfl⟩
        rw [hb] at kb0 kb1 kb2 hkk hbm hmem htk
        have HTK := Lib.hid htk
        have HN := Lib.hid hn
        clear hj hb htk hn HW
        have fin : ¬ (b.k = 0 ∧ (b.at' : Int) + 8 ≤ (n : Int) ∧ (n : Int) < (b.at' : Int) + b.size) → ∀ y ∈ B.take (i + 1), ¬ (y.k = 0 ∧ (y.at' : Int) + 8 ≤ (n : Int) ∧ (n : Int) < (y.at' : Int) + y.size) := fun hx y hy => by
          rw [HTK.out] at hy
          rcases List.mem_append.1 hy with hy | hy
          · exact HN.out y hy
          · rw [List.mem_singleton.1 hy]; exact hx
        have FIN := Lib.hid fin
        clear fin
        by_cases hk : b.k = 1
        · rw [show (b.k == 1) = true by simp [hk]] at kb2
          go_wp2
          go_quiet (fail)
          have ho2 := Lib.hid (ho.out.drewN nq)
          go_wp2
          go_roundw
          case rel => exact ⟨i + 1, by omega, by go_num, ho2, FIN.out (by omega)⟩
          case measure => simp [intOf]; omega
        · rw [show (b.k == 1) = false by simp [hk]] at kb2
          by_cases h8 : (b.at' : Int) + 8 ≤ (n : Int)
          · have d8 : decide ((b.at' : Int) + 8 ≤ (n : Int)) = true := decide_eq_true h8
            by_cases hs : (n : Int) < (b.at' : Int) + (b.size : Int)
            · have ds : decide ((n : Int) < (b.at' : Int) + (b.size : Int)) = true := decide_eq_true hs
              have hf : inB B (n : Int) = true := inB_true (by omega) hmem.out ⟨by omega, h8, hs⟩
              have HF := Lib.hid hf
              clear hf
              go_wp2
              go_quiet (fail)
              have ho2 := Lib.hid (ho.out.drewN nq)
              go_wp2
              go_ret
              exact ⟨by rw [HF.out]; rfl, ho2.out⟩
            · have ds : decide ((n : Int) < (b.at' : Int) + (b.size : Int)) = false := decide_eq_false hs
              go_wp2
              go_quiet (fail)
              have ho2 := Lib.hid (ho.out.drewN nq)
              go_wp2
              go_roundw
              case rel => exact ⟨i + 1, by omega, by go_num, ho2, FIN.out (by omega)⟩
              case measure => simp [intOf]; omega
          · have d8 : decide ((b.at' : Int) + 8 ≤ (n : Int)) = false := decide_eq_false h8
            go_wp2
            go_quiet (fail)
            have ho2 := Lib.hid (ho.out.drewN nq)
            go_wp2
            go_roundw
            case rel => exact ⟨i + 1, by omega, by go_num, ho2, FIN.out (by omega)⟩
            case measure => simp [intOf]; omega
      · obtain rfl : i = B.length := by omega
        have HN := Lib.hid hn
        clear hn
        have hf : inB B (n : Int) = false := inB_false (by have := HN.out; rw [List.take_length] at this; exact this)
        have HF := Lib.hid hf
        clear hf HW
        go_wp2
        go_ret
        exact ⟨by rw [HF.out]; rfl, ho.out⟩
  · have hq4 : ((n : Int) % 4 == 0) = false := by simp; omega
    have hf : inB B (n : Int) = false := by unfold inB; rw [decide_eq_false (by omega)]; rfl
    rw [hf]
    clear H hall ht hf
    go_enter Tryd.func33, Tryd.ntmps33
    go_wp2
    go_ret
    exact ⟨rfl, Only.refl _ _⟩
end
end Go.Proofs.YthlaoanfoimkfaaDoor
namespace Go.Proofs.YthlaoanfoimkfaaDoor
open Go.RowKit
set_option linter.unusedVariables false
set_option linter.all false
set_option maxRecDepth 100000
theorem byt_set {l : List UInt8} {i y : Nat} {x : UInt8} (h : i < l.length) : byt (l.set i x) y = if y = i then x.toNat else byt l y := by
  unfold byt
  rw [List.getD_eq_getElem?_getD, List.getD_eq_getElem?_getD]
  by_cases e : y = i
  · subst e
    rw [if_pos rfl, List.getElem?_set_self h]; rfl
  · rw [if_neg e, List.getElem?_set_ne (Ne.symm e)]
/-- The first j bytes of a word are laid. -/
def mset (M : List UInt8) (o v : Nat) : Nat → List UInt8
  | 0 => M
  | j + 1 => (mset M o v j).set (o + j) (UInt8.ofNat (v / 256 ^ j))
theorem mset_len (M : List UInt8) (o v : Nat) : ∀ j, (mset M o v j).length = M.length
  | 0 => rfl
  | j + 1 => by simp [mset, mset_len M o v j]
theorem wd_mset {M : List UInt8} {o v : Nat} (h : o + 4 ≤ M.length) (h4 : o % 4 = 0) (hv : v < 4294967296) : wd (mset M o v 4) = upd (wd M) o v := by
  have l0 := mset_len M o v 0
  have l1 := mset_len M o v 1
  have l2 := mset_len M o v 2
  have l3 := mset_len M o v 3
  have hb : ∀ y, byt (mset M o v 4) y = if y = o + 3 then (UInt8.ofNat (v / 256 ^ 3)).toNat else if y = o + 2 then (UInt8.ofNat (v / 256 ^ 2)).toNat else if y = o + 1 then (UInt8.ofNat (v / 256 ^ 1)).toNat else if y = o + 0 then (UInt8.ofNat (v / 256 ^ 0)).toNat else byt M y := fun y => by
    show byt ((mset M o v 3).set (o + 3) _) y = _
    rw [byt_set (by omega)]
    show (if y = o + 3 then _ else byt ((mset M o v 2).set (o + 2) _) y) = _
    rw [byt_set (by omega)]
    show (if y = o + 3 then _ else if y = o + 2 then _ else byt ((mset M o v 1).set (o + 1) _) y) = _
    rw [byt_set (by omega)]
    show (if y = o + 3 then _ else if y = o + 2 then _ else if y = o + 1 then _ else byt ((mset M o v 0).set (o + 0) _) y) = _
    rw [byt_set (by omega)]
    rfl
  funext y
  by_cases hy : y % 4 = 0
  · by_cases e : y = o
    · subst e
      rw [upd_at]
      unfold wd
      rw [if_pos hy]
      have b0 := hb y
      have b1 := hb (y + 1)
      have b2 := hb (y + 2)
      have b3 := hb (y + 3)
      rw [if_neg (by omega), if_neg (by omega), if_neg (by omega), if_pos (by omega)] at b0
      rw [if_neg (by omega), if_neg (by omega), if_pos rfl] at b1
      rw [if_neg (by omega), if_pos rfl] at b2
      rw [if_pos rfl] at b3
      rw [b0, b1, b2, b3]
      simp only [UInt8.toNat_ofNat', Nat.reducePow]
      omega
    · rw [upd_ne e]
      unfold wd
      rw [if_pos hy, if_pos hy]
      simp only [hb]
      rw [if_neg (by omega), if_neg (by omega), if_neg (by omega), if_neg (by omega), if_neg (by omega), if_neg (by omega), if_neg (by omega), if_neg (by omega), if_neg (by omega), if_neg (by omega), if_neg (by omega), if_neg (by omega), if_neg (by omega), if_neg (by omega), if_neg (by omega), if_neg (by omega)]
  · rw [upd_ne (by omega)]
    unfold wd
    rw [if_neg hy, if_neg hy]
theorem U8s_set (l : List UInt8) (i : Nat) (x : UInt8) : (U8s l).toArray.setIfInBounds i (U8 x) = (U8s (l.set i x)).toArray := by
  apply Array.toList_inj.1
  simp [U8s, List.map_set]
section
variable {w w' : World} {r gB gM N : Nat} {B A C : List Bk} {b : Bk} {L : Nat → List Nat} {M : List UInt8} {S : List Nat}
variable [HAdd Unit Unit Nat]
theorem Dr.cM (H : Dr w r gB gM B L M) : ∃ cM, w.cell? ⟨r, 33, none⟩ = some (.slice (some ⟨gM, 0, none⟩) M.length cM) := by
  obtain ⟨cs, A, c, cB, cM, k1, k2, k3, k4, k5⟩ := H.ex
  exact ⟨cM, (k1.cell 33).trans k4⟩
theorem Dr.by_ (H : Dr w r gB gM B L M) {i : Nat} (hi : i < M.length) : w.cell? ⟨gM, i, none⟩ = some (.int .u8 (byt M i : Nat)) := by
  rw [H.mem.cell i, List.getElem?_toArray, U8s_get]
  unfold byt
  rw [List.getD_eq_getElem?_getD, List.getElem?_eq_getElem hi]
  rfl
theorem Dr.byteSet (H : Dr w r gB gM B L M) {i : Nat} {x : UInt8} : Dr (w.setCell ⟨gM, i, none⟩ (U8 x)) r gB gM B L (M.set i x) := by
  have hne := H.apart
  have o : Only [gM] w (w.setCell ⟨gM, i, none⟩ (U8 x)) := (Only.refl [gM] w).setCell (.inl (by simp)) _
  have hn : NoRow w [gM] := NoRow.of H.mem (by decide)
  obtain ⟨cs, A, c, cB, cM, k1, k2, k3, k4, k5⟩ := H.ex
  refine ⟨⟨cs, A, c, cB, cM, k1.only o (by simp; omega), k2, k3, by simpa using k4, fun i hi => ⟨(k5 i hi).1, (k5 i hi).2.only o hn⟩⟩, H.row.only o (by simp; omega), ?_, Nat.lt_of_lt_of_le H.xlt o.size⟩
  rw [← U8s_set]
  exact H.mem.set_ i (U8 x)
/-- Word's bytes from the j-th on. -/
def tailW (M : List UInt8) (o j : Nat) : Nat := if j = 0 then byt M o + 256 * byt M (o + 1) + 65536 * byt M (o + 2) + 16777216 * byt M (o + 3) else if j = 1 then byt M (o + 1) + 256 * byt M (o + 2) + 65536 * byt M (o + 3) else if j = 2 then byt M (o + 2) + 256 * byt M (o + 3) else if j = 3 then byt M (o + 3) else 0
theorem tailW_step {M : List UInt8} {o j : Nat} (hj : j < 4) : tailW M o j = tailW M o (j + 1) * 256 + byt M (o + j) := by
  rcases (by omega : j = 0 ∨ j = 1 ∨ j = 2 ∨ j = 3) with rfl | rfl | rfl | rfl <;> simp [tailW] <;> omega
theorem tailW_lt (M : List UInt8) (o : Nat) {j : Nat} (hj : 1 ≤ j) : tailW M o j < 16777216 := by
  have := byt_lt M (o + 1)
  have := byt_lt M (o + 2)
  have := byt_lt M (o + 3)
  unfold tailW
  split
  · omega
  · split
    · omega
    · split
      · omega
      · split <;> omega
set_option maxHeartbeats 1000000 in
theorem dget_any (H : Dr w r gB gM B L M) (hM : M.length ≤ 65536) {o : Nat} (ho : o + 4 ≤ M.length) (h4 : o % 4 = 0) :
    Calls Tryd.prog 11 #[.pointer (some ⟨r, 0, none⟩), .int .i64 o] w fun e w' => e = .returned (.int .u32 (wd M o)) ∧ w = w' := by
  have HH := Lib.hid H
  have hw : wd M o = tailW M o 0 := by unfold wd tailW; rw [if_pos h4]; rfl
  have HW := Lib.hid hw
  clear H hw
  go_enter Tryd.func11, Tryd.ntmps11
  go_wp2
  go_loopw [5, 6] (fun vv vi wr => ∃ j v : Nat, j ≤ 4 ∧ vi = .int .i64 ((j : Int) - 1) ∧ vv = .int .u32 v ∧ w = wr ∧ v = tailW M o j) (fun _ vi _ => (intOf vi + 1).toNat)
  case atStart => exact ⟨4, 0, by omega, rfl, rfl, rfl, rfl⟩
  case round =>
    obtain ⟨j, v, hj, rfl, rfl, rfl, hv⟩ := hrel
    obtain ⟨cM, k0⟩ := HH.out.cM
    rcases j with _ | j
    · have HV := Lib.hid hv
      clear hv
      go_wp2
      go_ret
      exact ⟨by rw [HW.out, ← HV.out]; simp, rfl⟩
    · have kb := HH.out.by_ (i := o + j) (by omega)
      have hbl := byt_lt M (o + j)
      have hvl := tailW_lt M o (j := j + 1) (by omega)
      rw [← hv] at hvl
      have hst := tailW_step (M := M) (o := o) (j := j) (by omega)
      rw [← hv] at hst
      obtain ⟨q, hq⟩ : ∃ q, byt M (o + j) = q := ⟨_, rfl⟩
      rw [hq] at kb hbl hst
      have HST := Lib.hid hst
      have e1 : ((j + 1 : Nat) : Int) - 1 = (j : Int) := by omega
      have a0 : (0 : Int) ≤ (o : Int) + (j : Int) := by omega
      have a1 : (o : Int) + (j : Int) < (M.length : Int) := by omega
      rw [e1]
      clear hst hv hq
      go_wp2
      go_roundw
      case rel => exact ⟨j, v * 256 + q, by omega, by go_num, by go_num, by first | rfl | trivial, HST.out.symm⟩
      case measure => first | (simp [intOf]; done) | (simp [intOf]; omega)
set_option maxHeartbeats 1000000 in
theorem dset_any (H : Dr w r gB gM B L M) (hM : M.length ≤ 65536) {o v : Nat} (ho : o + 4 ≤ M.length) (hv : v < 4294967296) :
    Calls Tryd.prog 34 #[.pointer (some ⟨r, 0, none⟩), .int .i64 o, .int .u32 v] w fun e w' => e = .returned (.tuple #[]) ∧ Only [gM] w w' ∧ Dr w' r gB gM B L (mset M o v 4) := by
  have HH := Lib.hid H
  have hne := H.apart
  clear H
  go_enter Tryd.func34, Tryd.ntmps34
  go_wp2
  go_loopw [2, 6] (fun vv vi wr => ∃ j x : Nat, j ≤ 4 ∧ vi = .int .i64 j ∧ vv = .int .u32 x ∧ x = v / 256 ^ j ∧ x < 4294967296 ∧ Hid (Only [gM] w wr) ∧ Hid (Dr wr r gB gM B L (mset M o v j))) (fun _ vi _ => 4 - (intOf vi).toNat)
  case atStart => exact ⟨0, v, by omega, rfl, rfl, by simp, hv, Lib.hid (Only.refl _ _), HH⟩
  case round =>
    obtain ⟨j, x, hj, rfl, rfl, hx, hxb, hO, hD⟩ := hrel
    obtain ⟨cM, k0⟩ := hD.out.cM
    rw [mset_len] at k0
    by_cases hlt : j < 4
    · have kb := hD.out.by_ (i := o + j) (by rw [mset_len]; omega)
      have kf := hD.out.mem.frozen (o + j)
      have a0 : (0 : Int) ≤ (o : Int) + (j : Int) := by omega
      have a1 : (o : Int) + (j : Int) < (M.length : Int) := by omega
      have hval : Value.int .u8 (((x % 256 : Nat) : Nat) : Int) = U8 (UInt8.ofNat (v / 256 ^ j)) := by
        unfold U8
        rw [UInt8.toNat_ofNat', ← hx]
      have HX := Lib.hid hx
      have HV := Lib.hid hval
      obtain ⟨q, hq⟩ : ∃ q, byt (mset M o v j) (o + j) = q := ⟨_, rfl⟩
      rw [hq] at kb
      clear hx hval hq
      go_wp2
      go_roundw
      case rel =>
        refine ⟨j + 1, x / 256, by omega, by go_num, by go_num, by rw [HX.out, Nat.pow_succ, Nat.div_div_eq_div_mul], by omega, Lib.hid (hO.out.setCell (.inl (by simp)) _), Lib.hid ?_⟩
        have := hD.out.byteSet (i := o + j) (x := UInt8.ofNat (v / 256 ^ j))
        rw [← HV.out] at this
        exact this
      case measure => first | (simp [intOf]; done) | (simp [intOf]; omega)
    · obtain rfl : j = 4 := by omega
      go_wp2
      go_end0
      exact ⟨rfl, hO.out, hD.out⟩
end
end Go.Proofs.YthlaoanfoimkfaaDoor
