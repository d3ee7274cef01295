/- Walks over wire: the reader's Number. No condition. -/
import Derived.Test.YtmaljajdmgkakaaGreatDoorWi3
namespace Go.Proofs.YtmaljajdmgkakaaGreatDoor
open Go.RowKit
set_option linter.unusedVariables false
set_option linter.all false
set_option maxRecDepth 20000

/-- What reading a number answers: the number, the error, how far the place moves. -/
def resN (l : List UInt8) : Nat × Int × Nat := match rdN l 0 0 with
  | none => (0, 4, 0)
  | some (v, k) => (v, 0, k)
theorem resN_none {l : List UInt8} (h : rdN l 0 0 = none) : resN l = (0, 4, 0) := by unfold resN; rw [h]
theorem resN_some {l : List UInt8} {v k : Nat} (h : rdN l 0 0 = some (v, k)) : resN l = (v, 0, k) := by unfold resN; rw [h]
theorem resN_le (l : List UInt8) : (resN l).2.2 ≤ l.length := by
  unfold resN
  split
  · exact Nat.zero_le _
  · rename_i v k h
    have := rdN_bound l 0 0 v k h (by omega) (by omega)
    simp only; omega

def NumRead (w : World) (g gb cap : Nat) (bs : List UInt8) (at_ : Nat) (e : Ending) (w' : World) : Prop :=
  e = .returned (.tuple #[.int .u64 (resN (bs.drop at_)).1, .int .i64 (resN (bs.drop at_)).2.1]) ∧ Only [g] w w' ∧ Rd w' g gb cap bs (at_ + (resN (bs.drop at_)).2.2)

theorem shl7 (i x : Nat) (h : x * 128 ^ i < 2 ^ 64) : (x : Int) * 2 ^ (7 * i) = ((x * 128 ^ i : Nat) : Int) := by
  rw [show (128 : Nat) = 2 ^ 7 by rfl, ← Nat.pow_mul]; simp
theorem accv (i acc c : Nat) (P : Int) (hP : P = ((128 ^ i : Nat) : Int)) (hc : c < 256) (ha : acc < 128 ^ i) (hb : c % 128 * 128 ^ i < 2 ^ 64) (hi : i ≤ 9) :
    bits .or .u64 (acc : Int) (IntKind.u64.wrap (IntKind.u64.wrap (bits .and .u8 (c : Int) 127) * P)) = ((acc + c % 128 * 128 ^ i : Nat) : Int) := by
  subst hP
  have h1 : 128 ^ i ≤ 128 ^ 9 := Nat.pow_le_pow_right (by omega) hi
  rw [show (127 : Int) = ((127 : Nat) : Int) from rfl, u8_and_nat _ _ hc (by omega), and127 _ hc, IntKind.wrap_u64, IntKind.wrap_u64]
  have e1 : ((c % 128 : Nat) : Int) % 18446744073709551616 = ((c % 128 : Nat) : Int) := by omega
  rw [e1, ← Int.natCast_mul]
  have e2 : ((c % 128 * 128 ^ i : Nat) : Int) % 18446744073709551616 = ((c % 128 * 128 ^ i : Nat) : Int) := by omega
  rw [e2, u64_or_nat _ _ (by omega) (by omega), Nat.or_comm]
  have e3 : (128 : Nat) ^ i = 2 ^ (7 * i) := by rw [show (128 : Nat) = 2 ^ 7 by rfl, ← Nat.pow_mul]
  rw [nat_join (7 * i) (c % 128 * 128 ^ i) acc (by rw [e3]; exact Nat.mul_mod_left _ _) (by rw [← e3]; exact ha), Nat.add_comm]
theorem accv0 (acc c : Nat) (hc : c < 256) (ha : acc < 128 ^ 0) (hb : c % 128 * 128 ^ 0 < 2 ^ 64) :
    bits .or .u64 (acc : Int) (IntKind.u64.wrap (IntKind.u64.wrap (bits .and .u8 (c : Int) 127))) = ((acc + c % 128 * 128 ^ 0 : Nat) : Int) := by
  have := accv 0 acc c 1 (by decide) hc ha hb (by omega)
  rwa [Int.mul_one] at this
theorem acc_lt (i acc c : Nat) (ha : acc < 128 ^ i) : acc + c % 128 * 128 ^ i < 128 ^ (i + 1) := by
  have ee : 128 ^ (i + 1) = 128 ^ i * 128 := Nat.pow_succ ..
  have h1 : c % 128 * 128 ^ i ≤ 127 * 128 ^ i := Nat.mul_le_mul_right _ (by omega)
  omega
theorem part_lt (i c : Nat) (hi : i ≤ 8 ∨ (i = 9 ∧ c ≤ 1)) : c % 128 * 128 ^ i < 2 ^ 64 := by
  rcases hi with hi | ⟨rfl, hc⟩
  · have h1 : 128 ^ i ≤ 128 ^ 8 := Nat.pow_le_pow_right (by omega) hi
    have h2 : c % 128 * 128 ^ i ≤ 127 * 128 ^ 8 := Nat.mul_le_mul (by omega) h1
    omega
  · have : c % 128 * 128 ^ 9 ≤ 1 * 128 ^ 9 := Nat.mul_le_mul_right _ (by omega)
    omega
set_option maxHeartbeats 2000000 in
theorem rdnumber_any {g gb cap at_ : Nat} {bs : List UInt8} {w : World} (h : Rd w g gb cap bs at_) : Calls Tryz.prog 74 #[.pointer (some ⟨g, 0, none⟩)] w (NumRead w g gb cap bs at_) := by
  have k0 := h.k0
  have k1 := h.k1
  have f1 := h.hdr.frozen 1
  have hle := h.le
  have hmx := h.max
  have H := hide h
  clear h
  go_enter Tryz.func74, Tryz.ntmps74
  go_wp2_with fail
  go_step3
  go_wp2_with fail
  refine (there_yes H.out).mono ?_
  rintro e w' ⟨rfl, rfl⟩
  go_wp2_with fail
  go_quiet (fail)
  go_wp2_with fail
  go_step3
  go_wp2_with fail
  go_loopw [4, 5, 6] (fun vn vat vsh wr => ∃ (i acc m : Nat), vn = .int .u64 acc ∧ vat = .int .i64 ((at_ + i : Nat) : Int) ∧ vsh = .int .u64 ((7 * i : Nat) : Int) ∧ i ≤ 9 ∧ acc < 128 ^ i ∧ at_ + i ≤ bs.length ∧ Hid (rdN (bs.drop (at_ + i)) i acc = rdN (bs.drop at_) 0 0) ∧ w.drewN m = wr) (fun _ vat _ _ => bs.length - (intOf vat).toNat)
  case atStart => exact ⟨0, 0, _, rfl, rfl, rfl, by omega, by omega, by omega, hide rfl, rfl⟩
  case round =>
    obtain ⟨i, acc, m, rfl, rfl, rfl, hi, hacc, hlen, hF, rfl⟩ := hrel
    by_cases hlt : at_ + i < bs.length
    · have i1 : ((at_ + i : Nat) : Int) < (bs.length : Int) := by omega
      have i0 : (0 : Int) ≤ ((at_ + i : Nat) : Int) := by omega
      obtain ⟨c, hc⟩ : ∃ c, bs[at_ + i]? = some c := ⟨_, List.getElem?_eq_getElem hlt⟩
      have hcell := H.out.byte _ _ hc
      have hc256 := c.toNat_lt
      have hdrop : bs.drop (at_ + i) = c :: bs.drop (at_ + (i + 1)) := by
        obtain ⟨hl, rfl⟩ := List.getElem?_eq_some_iff.1 hc
        exact List.drop_eq_getElem_cons hl
      have hF' := hF.out
      rw [hdrop] at hF'
      simp only [rdN] at hF'
      clear hdrop hc
      have hG := hide hF'
      clear hF'
      by_cases h9 : i = 9
      · subst h9
        by_cases hc1 : 1 < c.toNat
        · have d1 : (1 : Int) < (c.toNat : Int) := by omega
          have hres := hide (resN_none (hG.out.symm.trans (if_pos (.inl ⟨rfl, hc1⟩))))
          clear hG hF
          go_wp2_with fail
          go_ret2
          refine ⟨?_, (Only.refl _ _).drewN _, ?_⟩
          · rw [hres.out]; rfl
          · rw [hres.out]; exact H.out.only0 ((Only.refl _ _).drewN _)
        · have d1 : decide ((1 : Int) < (c.toNat : Int)) = false := by simp; omega
          by_cases hc0 : c.toNat = 0
          · have gc0 : ((c.toNat : Int) == 0) = true := by simp; omega
            have hres := hide (resN_none (hG.out.symm.trans (if_pos (.inr ⟨by omega, hc0⟩))))
            clear hG hF
            go_wp2_with fail
            go_ret2
            refine ⟨?_, (Only.refl _ _).drewN _, ?_⟩
            · rw [hres.out]; rfl
            · rw [hres.out]; exact H.out.only0 ((Only.refl _ _).drewN _)
          · have gc0 : ((c.toNat : Int) == 0) = false := by simp; omega
            have hbig : c.toNat < 128 := by omega
            have gb : (c.toNat : Int) < 128 := by omega
            have hres := hide (resN_some (hG.out.symm.trans ((if_neg (by omega)).trans (if_pos hbig))))
            have hv := hide (accv 9 acc c.toNat 9223372036854775808 (by decide) hc256 hacc (part_lt 9 c.toNat (by omega)) (by omega))
            clear hG hF
            go_wp2_with fail
            (first | go_ret2 | (rw [Exit.noGoto_ret]; go_ret2))
            refine ⟨?_, ((Only.refl _ w).drewN m).setCell (.inl (by simp)) _, ?_⟩
            · rw [hres.out]
              show _ = Ending.returned (.tuple #[.int .u64 ((acc + c.toNat % 128 * 128 ^ 9 : Nat) : Int), .int .i64 0])
              rw [← hv.out]
              rfl
            · rw [hres.out]
              have hm := (H.out.only0 ((Only.refl [] _).drewN m)).move (at_ + (9 + 1)) (by omega)
              rw [show ((at_ + (9 + 1) : Nat) : Int) = (at_ : Int) + 9 + 1 from by omega] at hm
              exact hm
      · by_cases hi0 : i = 0
        · subst hi0
          simp only [Nat.add_zero, Nat.mul_zero] at hcell i0 i1 hlen hlt hG ⊢
          by_cases hbig : c.toNat < 128
          · have gb : (c.toNat : Int) < 128 := by omega
            have hres := hide (resN_some (hG.out.symm.trans ((if_neg (by omega)).trans (if_pos hbig))))
            have hv := hide (accv0 acc c.toNat hc256 hacc (part_lt 0 c.toNat (by omega)))
            clear hG hF
            go_wp2_with fail
            (first | go_ret2 | (rw [Exit.noGoto_ret]; go_ret2))
            refine ⟨?_, ((Only.refl _ w).drewN m).setCell (.inl (by simp)) _, ?_⟩
            · rw [hres.out]
              show _ = Ending.returned (.tuple #[.int .u64 ((acc + c.toNat % 128 * 128 ^ 0 : Nat) : Int), .int .i64 0])
              rw [← hv.out]
              rfl
            · rw [hres.out]
              have hm := (H.out.only0 ((Only.refl [] _).drewN m)).move (at_ + (0 + 1)) (by omega)
              rw [show ((at_ + (0 + 1) : Nat) : Int) = (at_ : Int) + 1 from by omega] at hm
              exact hm
          · have gb : ¬ (c.toNat : Int) < 128 := by omega
            have hnext := hide ((if_neg hbig).symm.trans ((if_neg (by omega)).symm.trans hG.out))
            have hv := hide (accv0 acc c.toNat hc256 hacc (part_lt 0 c.toNat (by omega)))
            have hacc2 := acc_lt 0 acc c.toNat hacc
            clear hG hF
            go_wp2_with fail
            go_roundw
            case rel => exact ⟨0 + 1, acc + c.toNat % 128 * 128 ^ 0, m, by rw [hv.out], by go_num, by go_num, by omega, hacc2, by omega, hnext, rfl⟩
            case measure => simp [intOf]; omega
        · generalize hsh : ((7 * i : Nat) : Int) = sh
          have g9 : (sh == 63) = false := by simp; omega
          have g0 : 0 ≤ sh := by omega
          have g64 : sh ≤ 57 := by omega
          have gi : (0 : Int) < sh := by omega
          have HS := hide hsh
          have hP : (2 : Int) ^ sh.toNat = ((128 ^ i : Nat) : Int) := by
            rw [← hsh, Int.toNat_natCast, show (128 : Nat) = 2 ^ 7 by rfl, ← Nat.pow_mul]
            simp
          have HP := hide hP
          clear hsh hP
          by_cases hc0 : c.toNat = 0
          · have gc0 : ((c.toNat : Int) == 0) = true := by simp; omega
            have hres := hide (resN_none (hG.out.symm.trans (if_pos (.inr ⟨by omega, hc0⟩))))
            clear hG hF
            go_wp2_with fail
            go_ret2
            refine ⟨?_, (Only.refl _ _).drewN _, ?_⟩
            · rw [hres.out]; rfl
            · rw [hres.out]; exact H.out.only0 ((Only.refl _ _).drewN _)
          · have gc0 : ((c.toNat : Int) == 0) = false := by simp; omega
            by_cases hbig : c.toNat < 128
            · have gb : (c.toNat : Int) < 128 := by omega
              have hres := hide (resN_some (hG.out.symm.trans ((if_neg (by omega)).trans (if_pos hbig))))
              have hv := hide (accv i acc c.toNat (2 ^ sh.toNat) HP.out hc256 hacc (part_lt i c.toNat (by omega)) (by omega))
              clear hG hF
              go_wp2_with fail
              (first | go_ret2 | (rw [Exit.noGoto_ret]; go_ret2))
              refine ⟨?_, ((Only.refl _ w).drewN m).setCell (.inl (by simp)) _, ?_⟩
              · rw [hres.out]
                show _ = Ending.returned (.tuple #[.int .u64 ((acc + c.toNat % 128 * 128 ^ i : Nat) : Int), .int .i64 0])
                rw [← hv.out]
                rfl
              · rw [hres.out]
                have hm := (H.out.only0 ((Only.refl [] _).drewN m)).move (at_ + (i + 1)) (by omega)
                rw [show ((at_ + (i + 1) : Nat) : Int) = (at_ : Int) + i + 1 from by omega] at hm
                exact hm
            · have gb : ¬ (c.toNat : Int) < 128 := by omega
              have hnext := hide ((if_neg hbig).symm.trans ((if_neg (by omega)).symm.trans hG.out))
              have hv := hide (accv i acc c.toNat (2 ^ sh.toNat) HP.out hc256 hacc (part_lt i c.toNat (by omega)) (by omega))
              have hacc2 := acc_lt i acc c.toNat hacc
              clear hG hF
              go_wp2_with fail
              go_roundw
              case rel => exact ⟨i + 1, acc + c.toNat % 128 * 128 ^ i, m, by rw [hv.out], by go_num, by rw [show ((7 * (i + 1) : Nat) : Int) = sh + 7 from by have := HS.out; omega]; (try go_num), by omega, hacc2, by omega, hnext, rfl⟩
              case measure => simp [intOf]; omega
    · have d1 : decide (((at_ + i : Nat) : Int) < (bs.length : Int)) = false := by simp; omega
      have hF' := hF.out
      rw [List.drop_eq_nil_of_le (by omega)] at hF'
      simp only [rdN] at hF'
      have hres := hide (resN_none hF'.symm)
      go_wp2_with fail
      go_ret2
      refine ⟨?_, (Only.refl _ _).drewN _, ?_⟩
      · rw [hres.out]; rfl
      · rw [hres.out]; exact H.out.only0 ((Only.refl _ _).drewN _)
end Go.Proofs.YtmaljajdmgkakaaGreatDoor
