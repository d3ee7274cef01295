/- Script: the walk of word. No condition but its size. -/
import Derived.Test.YteblhklclcjonaaGreatDoorSw1
import Derived.Test.YteblhklclcjonaaGreatDoorSu1
import Derived.Test.YteblhklclcjonaaGreatDoorSe2
import Derived.Deep.RegionHeld3
namespace Go.Proofs.YteblhklclcjonaaGreatDoor
open Go.RowKit Go.Lib
set_option linter.unusedVariables false
set_option linter.all false
set_option maxRecDepth 100000

def HEXS : ByteArray := ⟨#[48, 49, 50, 51, 52, 53, 54, 55, 56, 57, 65, 66, 67, 68, 69, 70]⟩
theorem hex_fin : ∀ k : Fin 16, (HEXS.extract k.val 16).extract 0 1 = bs [hexC k.val] := by decide +kernel
theorem hex_size : ∀ k : Fin 16, (HEXS.extract k.val 16).size = 16 - k.val := by decide +kernel
theorem and_fin : ∀ k : Fin 256, bits .and .u8 ((k.val : Nat) : Int) 15 = ((k.val % 16 : Nat) : Int) := by decide +kernel
theorem flat_snoc (b : List UInt8) (c : UInt8) : (b ++ [c]).flatMap chB = b.flatMap chB ++ chB c := by simp
set_option maxHeartbeats 4000000 in
theorem word_any (b : List UInt8) (hb : b.length ≤ 2000000) (w : World) : Calls Tryz.prog 46 #[.string (bs b)] w fun e w' => e = .returned (.string (bs (wordB b))) ∧ Only [] w w' := by
  have htr : (bs b).toList = b := by rw [ByteArray.toList_eq, bs_list]
  by_cases hb0 : b = []
  · subst hb0
    go_enter Tryz.func46, Tryz.ntmps46
    go_wp2_with fail
    go_ret
    exact ⟨rfl, Only.refl _ _⟩
  · have hne : ¬ (bs b).toList = [] := by rw [htr]; exact hb0
    have hne2 : (bs b).toList.isEmpty = false := by rw [htr]; simpa using hb0
    have hW : wordB b = b.flatMap chB := if_neg hb0
    rw [hW]
    obtain ⟨X, hX⟩ : ∃ X, w.heap.size = X := ⟨_, rfl⟩
    have BN := hide (Bd.new w X (by omega))
    obtain ⟨cp, w1, hrun, o1, hsrc, hlt1, hnot⟩ := bytes_new (w.alloc (.cells #[.pointer none, .slice none 0 0] 88)) b
    have hs1 : (w.alloc (.cells #[.pointer none, .slice none 0 0] 88)).heap.size = X + 1 := by simp [hX]
    rw [hs1] at hsrc hrun hlt1 hnot
    rw [hX] at BN
    have BN1 := hide (BN.out.only0 o1)
    have O1 := hide (((Only.refl [] w).alloc (.cells #[.pointer none, .slice none 0 0] 88)).trans0 o1)
    obtain ⟨n, hn⟩ : ∃ n, b.length = n := ⟨_, rfl⟩
    rw [hn] at hrun hb
    have HN := hide hn
    have HSRC := hide hsrc
    have HNOT := hide hnot
    clear hn hsrc o1 htr BN hW hb0 hs1 hnot
    go_enter Tryz.func46, Tryz.ntmps46
    go_wp2_with fail
    go_loopw [11] (fun vj wr => ∃ (j : Nat) (l : List UInt8), j ≤ n ∧ vj = .int .i64 j ∧ Hid (l = (b.take j).flatMap chB) ∧ l.length ≤ 3 * j ∧ Hid (Bd wr X X l) ∧ Hid (Below X w wr) ∧ Hid (wr.heap[X + 1]? = w1.heap[X + 1]?)) (fun vj _ => n - (intOf vj).toNat)
    case atStart => exact ⟨0, [], Nat.zero_le _, rfl, hide rfl, by simp, BN1, hide (by rw [← hX]; exact O1.out.below), hide rfl⟩
    case round =>
      obtain ⟨j, l, hj, rfl, hl, hll, hB, hO, hS⟩ := hrel
      have hsz := hO.out.size
      by_cases hlt : j < n
      · obtain ⟨c, hc⟩ : ∃ c, b[j]? = some c := ⟨_, List.getElem?_eq_getElem (by rw [HN.out]; exact hlt)⟩
        have a0 : wr.cell? ⟨X + 1, j, none⟩ = some (.int .u8 (c.toNat : Int)) := (World.cell?_of_block (w := w1) hS.out).trans (HSRC.out.at hc)
        have htk : b.take (j + 1) = b.take j ++ [c] := by rw [List.take_add_one, hc]; rfl
        have j0 : (0 : Int) ≤ (j : Int) := by omega
        have j1 : (j : Int) < (n : Int) := by omega
        have HL := hide (show l ++ chB c = (b.take (j + 1)).flatMap chB by rw [htk, flat_snoc, ← hl.out])
        have hcl := chB_len c
        have hls : X + 1 < wr.heap.size := by
          rcases Nat.lt_or_ge (X + 1) wr.heap.size with h | h
          · exact h
          · have h2 := hS.out
            rw [Array.getElem?_eq_none h, Array.getElem?_eq_getElem hlt1] at h2
            cases h2
        have keep := fun V W (oV : Only [] wr V) (k : KeepN X V W) => show W.heap[X + 1]? = w1.heap[X + 1]? from by
          have h1 : V.heap[X + 1]? = w1.heap[X + 1]? := (oV.block (X + 1) hls (by simp)).trans hS.out
          exact (k (X + 1) (by have := oV.size; omega) (by omega) (fun cs => by rw [h1]; exact HNOT.out cs)).trans h1
        have KEEP := hide keep
        clear keep
        cases hok : okB c with
        | true =>
          have W1 := hide (write1_any X X l c wr hB.out (by omega) (by omega))
          have hk := (okB_iff c).1 hok
          have hch := chB_ok hok
          rw [hch] at HL
          have hk3 : c.toNat ≠ 37 := fun h => hk.2.2 (UInt8.toNat_inj.1 h)
          obtain ⟨cn, hcn⟩ : ∃ x, c.toNat = x := ⟨_, rfl⟩
          have W2 := W1.out
          rw [hcn] at a0 W2 hk hk3
          have W1 := hide W2
          have d1 : decide ((32 : Int) < (cn : Int)) = true := decide_eq_true (by omega)
          have d2 : decide ((cn : Int) < 127) = true := decide_eq_true (by omega)
          have d3 : ((cn : Int) != 37) = true := by simp; omega
          clear W2 hcn hch hk hk3 hc htk hcl hok hB hS
          go_wp2_with (go_at_call 71; (with_reducible refine W1.out.mono ?_); rintro e w4 ⟨rfl, h4, b4, k4⟩; have HB4 := hide h4; have O4 := hide (hO.out.trans b4); have S4 := hide (KEEP.out _ _ (Only.refl _ _) k4); clear h4 b4 k4)
          go_roundw
          case rel => exact ⟨j + 1, _, by omega, by go_num, HL, by simp; omega, HB4, O4, S4⟩
          case measure => simp [intOf]; omega
        | false =>
          have hch := chB_no (c := c) (by rw [hok]; decide)
          rw [hch] at HL
          have hk : ¬ (33 ≤ c.toNat ∧ c.toNat ≤ 126 ∧ c.toNat ≠ 37) := fun h => by
            have : okB c = true := (okB_iff c).2 ⟨h.1, h.2.1, fun e => h.2.2 (by rw [e]; rfl)⟩
            rw [hok] at this; cases this
          have hc256 := c.toNat_lt
          obtain ⟨cn, hcn⟩ : ∃ x, c.toNat = x := ⟨_, rfl⟩
          rw [hcn] at a0 hk HL hc256
          have hx1 := hex_fin ⟨cn / 16, by omega⟩
          have hx2 := hex_fin ⟨cn % 16, by omega⟩
          simp only at hx1 hx2
          have W1 := fun (V : World) (oV : Only [] wr V) => writes_any X X l (bs [37, hexC (cn / 16), hexC (cn % 16)]) V (hB.out.only0 oV) (by rw [bs_size]; simp; omega) (by have := oV.size; omega)
          simp only [bs_list] at W1
          have K : decide ((32 : Int) < (cn : Int)) = false ∨ (decide ((32 : Int) < (cn : Int)) = true ∧ decide ((cn : Int) < 127) = false) ∨ (decide ((32 : Int) < (cn : Int)) = true ∧ decide ((cn : Int) < 127) = true ∧ ((cn : Int) != 37) = false) := by
            by_cases h1 : (32 : Int) < (cn : Int)
            · by_cases h2 : (cn : Int) < 127
              · exact .inr (.inr ⟨decide_eq_true h1, decide_eq_true h2, by simp; omega⟩)
              · exact .inr (.inl ⟨decide_eq_true h1, decide_eq_false h2⟩)
            · exact .inl (decide_eq_false h1)
          clear hcn hch hk hc htk hcl hok hB hS
          have ea := and_fin ⟨cn, hc256⟩
          simp only at ea
          have hs1 := hex_size ⟨cn / 16, by omega⟩
          have hs2 := hex_size ⟨cn % 16, by omega⟩
          simp only at hs1 hs2
          unfold HEXS at hx1 hx2 hs1 hs2
          obtain ⟨hi, hhi⟩ : ∃ x, cn / 16 = x := ⟨_, rfl⟩
          obtain ⟨lo, hlo⟩ : ∃ x, cn % 16 = x := ⟨_, rfl⟩
          have e1 : (cn : Int) / 16 = (hi : Int) := by omega
          have e3 : (cn : Int) % 16 = (lo : Int) := by omega
          have h01 : (0 : Int) ≤ (hi : Int) := by omega
          have h02 : (hi : Int) ≤ 16 := by omega
          have h03 : (0 : Int) ≤ (lo : Int) := by omega
          have h04 : (lo : Int) ≤ 16 := by omega
          rw [hhi] at hx1 hs1 HL W1
          rw [hlo] at hx2 hs2 ea HL W1
          obtain ⟨E1, hE1⟩ : ∃ E, ({ data := #[48, 49, 50, 51, 52, 53, 54, 55, 56, 57, 65, 66, 67, 68, 69, 70] } : ByteArray).extract hi 16 = E := ⟨_, rfl⟩
          obtain ⟨E2, hE2⟩ : ∃ E, ({ data := #[48, 49, 50, 51, 52, 53, 54, 55, 56, 57, 65, 66, 67, 68, 69, 70] } : ByteArray).extract lo 16 = E := ⟨_, rfl⟩
          rw [hE1] at hx1 hs1
          rw [hE2] at hx2 hs2
          have t1 : (1 : Int) ≤ (E1.size : Int) := by omega
          have t2 : (1 : Int) ≤ (E2.size : Int) := by omega
          have c1 : (⟨#[37]⟩ : ByteArray) ++ bs [hexC hi] = bs [37, hexC hi] := bs_cat [37] [hexC hi]
          have c2 : bs [37, hexC hi] ++ bs [hexC lo] = bs [37, hexC hi, hexC lo] := bs_cat [37, hexC hi] [hexC lo]
          have z1 : ¬ 9223372036854775807 < (⟨#[37]⟩ : ByteArray).size + (bs [hexC hi]).size := by rw [bs_size]; show ¬ 9223372036854775807 < 1 + 1; omega
          have z2 : ¬ 9223372036854775807 < (bs [37, hexC hi]).size + (bs [hexC lo]).size := by rw [bs_size, bs_size]; simp
          have z3 : ¬ 9223372036854775807 < 1 + (bs [hexC hi]).size := by rw [bs_size]; show ¬ 9223372036854775807 < 1 + 1; omega
          have z4 : (bs [hexC hi]).size = 1 := by rw [bs_size]; rfl
          obtain ⟨S1, hS1⟩ : ∃ S, bs [hexC hi] = S := ⟨_, rfl⟩
          obtain ⟨S2, hS2⟩ : ∃ S, bs [hexC lo] = S := ⟨_, rfl⟩
          obtain ⟨S3, hS3⟩ : ∃ S, bs [37, hexC hi] = S := ⟨_, rfl⟩
          obtain ⟨S4, hS4⟩ : ∃ S, bs [37, hexC hi, hexC lo] = S := ⟨_, rfl⟩
          rw [hS1] at hx1 c1 z1 z3 z4
          rw [hS2] at hx2 c2 z2
          rw [hS3] at c1 c2 z2
          rw [hS4] at c2 W1
          have W1 := hide W1
          clear hhi hlo hs1 hs2 hS1 hS2 hS3 hS4 hc256
          have OD := hide ((Only.refl [] wr).drew)
          have hXl : X ≤ wr.heap.size := by omega
          have OB := hide (hO.out.trans (OD.out.below.mono hXl))
          rcases K with d1 | ⟨d1, d2⟩ | ⟨d1, d2, d3⟩
          all_goals
            go_wp2_with fail
            go_region_held3 (fun V => True) (trivial) (first | (go_at_call 41; (with_reducible refine (W1.out _ OD.out).mono ?_); rintro e w4 ⟨rfl, h4, b4, k4⟩; have HB4 := hide h4; have O4 := hide (OB.out.trans b4); have S4 := hide (KEEP.out _ _ OD.out k4)))
            go_wp2_with fail
            go_roundw
            case rel => exact ⟨j + 1, _, by omega, by go_num, HL, by simp; omega, HB4, O4, S4⟩
            case measure => simp [intOf]; omega
      · obtain rfl : j = n := by omega
        have e : b.take j = b := List.take_of_length_le (by rw [HN.out]; exact Nat.le_refl _)
        have hl2 := hl.out
        rw [e] at hl2
        subst hl2
        have ST := hide (string_any X X _ wr hB.out (by omega))
        clear e
        go_wp2_with (go_at_call 43; (with_reducible refine ST.out.mono ?_); rintro e w4 ⟨rfl, b4⟩; have O4 := hide (hO.out.trans b4); clear b4)
        go_ret
        exact ⟨rfl, Only.ofBelow (by rw [hX]; exact O4.out)⟩
end Go.Proofs.YteblhklclcjonaaGreatDoor
