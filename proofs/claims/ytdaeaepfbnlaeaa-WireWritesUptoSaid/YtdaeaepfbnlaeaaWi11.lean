/- Walks over the document's reader: Left, Number, Signed. No condition. -/
import Derived.Test.YtdaeaepfbnlaeaaWi8
namespace Go.Proofs.Ytdaeaepfbnlaeaa
open Go.RowKit
set_option linter.unusedVariables false
set_option linter.all false
set_option maxRecDepth 20000

/-- The document's reader: its header in block h, over bytes that came in. -/
structure RRd (w : World) (h : Nat) (A : Option Addr) (c : Nat) (bs : List UInt8) (at_ : Nat) : Prop where
  hdr : Blk w h 61 #[.slice A bs.length c, .int .i64 at_]
  src : Src w A bs
  le : at_ ≤ bs.length
  max : bs.length ≤ 140737488351300
  ne : 0 < bs.length → ∀ ad, A = some ad → ad.block ≠ h
  cap : bs.length ≤ c
section
variable {w w' : World} {h c at_ : Nat} {A : Option Addr} {bs : List UInt8} {S : List Nat}
theorem RRd.only (hr : RRd w h A c bs at_) (ho : Only S w w') (h1 : h ∉ S) (h2 : 0 < bs.length → ∀ ad, A = some ad → ad.block ∉ S) : RRd w' h A c bs at_ :=
  ⟨hr.hdr.only ho h1, hr.src.only ho (fun ad had hp => h2 hp ad had), hr.le, hr.max, hr.ne, hr.cap⟩
theorem RRd.only0 (hr : RRd w h A c bs at_) (ho : Only [] w w') : RRd w' h A c bs at_ := hr.only ho (by simp) (by simp)
theorem RRd.k0 (hr : RRd w h A c bs at_) : w.cell? ⟨h, 0, none⟩ = some (.slice A bs.length c) := by simpa using hr.hdr.cell 0
theorem RRd.k1 (hr : RRd w h A c bs at_) : w.cell? ⟨h, 1, none⟩ = some (.int .i64 at_) := by simpa using hr.hdr.cell 1
theorem RRd.byte (hr : RRd w h A c bs at_) (i : Nat) (x : UInt8) (hx : bs[i]? = some x) : ∃ a, A = some a ∧ w.cell? (a.add i) = some (.int .u8 x.toNat) := by
  have hi : i < bs.length := (List.getElem?_eq_some_iff.1 hx).1
  obtain ⟨a, ha, hc⟩ := hr.src (by omega)
  exact ⟨a, ha, hc i _ (by rw [U8s_get, hx]; rfl)⟩
theorem RRd.move (hr : RRd w h A c bs at_) (k : Nat) (hk : k ≤ bs.length) : RRd (w.setCell ⟨h, 1, none⟩ (.int .i64 k)) h A c bs k := by
  have ho : Only [h] w (w.setCell ⟨h, 1, none⟩ (.int .i64 k)) := (Only.refl _ w).setCell (.inl (by simp)) _
  exact ⟨hr.hdr.set_ 1 (.int .i64 k), hr.src.only ho (fun ad had hp => by simpa using hr.ne hp ad had), hk, hr.max, hr.ne, hr.cap⟩
end

theorem rleft_any {h c at_ : Nat} {A : Option Addr} {bs : List UInt8} {w : World} (hr : RRd w h A c bs at_) : Calls Try.prog 32 #[.pointer (some ⟨h, 0, none⟩)] w fun e w' => e = .returned (.int .i64 ((bs.length - at_ : Nat) : Int)) ∧ ∃ k, w.drewN k = w' := by
  have k0 := hr.k0
  have k1 := hr.k1
  have hle := hr.le
  have hmx := hr.max
  clear hr
  go_enter Try.func32, Try.ntmps32
  go_wp2_with fail
  go_quiet (fail)
  go_wp2
  go_ret
  exact ⟨by rw [Int.ofNat_sub hle]; rfl, _, rfl⟩

def RNumRead (w : World) (h : Nat) (A : Option Addr) (c : Nat) (bs : List UInt8) (at_ : Nat) (e : Ending) (w' : World) : Prop :=
  e = .returned (.tuple #[.int .u64 (resN (bs.drop at_)).1, .int .i64 (resN (bs.drop at_)).2.1]) ∧ Only [h] w w' ∧ RRd w' h A c bs (at_ + (resN (bs.drop at_)).2.2)

theorem sum_lt (i acc c : Nat) (ha : acc < 128 ^ i) (hi : i ≤ 8 ∨ (i = 9 ∧ c ≤ 1)) : acc + c % 128 * 128 ^ i < 2 ^ 64 := by
  rcases hi with hi | ⟨rfl, hc⟩
  · have h1 := acc_lt i acc c ha
    have h2 : 128 ^ (i + 1) ≤ 128 ^ 9 := Nat.pow_le_pow_right (by omega) (by omega)
    omega
  · have : c % 128 * 128 ^ 9 ≤ 1 * 128 ^ 9 := Nat.mul_le_mul_right _ (by omega)
    omega
theorem accr (i acc c : Nat) (ha : acc < 128 ^ i) (hi : i ≤ 8) : IntKind.u64.wrap ((acc : Int) + IntKind.u64.wrap ((c : Int) % 128 * 2 ^ (7 * i))) = ((acc + c % 128 * 128 ^ i : Nat) : Int) := by
  have hs := sum_lt i acc c ha (.inl hi)
  have hP : (2 : Int) ^ (7 * i) = ((128 ^ i : Nat) : Int) := by
    rw [show (128 : Nat) = 2 ^ 7 by rfl, ← Nat.pow_mul]; simp
  rw [hP, show (c : Int) % 128 = ((c % 128 : Nat) : Int) from by omega, ← Int.natCast_mul, IntKind.wrap_u64, IntKind.wrap_u64]
  omega
theorem accr0 (acc c : Nat) (ha : acc < 128 ^ 0) : ((acc : Int) + (c : Int) % 128) = ((acc + c % 128 * 128 ^ 0 : Nat) : Int) := by
  rw [Nat.pow_zero, Nat.mul_one]
  omega
theorem accr9 (acc c : Nat) : (acc : Int) + (c : Int) % 128 * 9223372036854775808 = ((acc + c % 128 * 128 ^ 9 : Nat) : Int) := by
  rw [show (128 : Nat) ^ 9 = 9223372036854775808 by decide]
  omega
set_option maxHeartbeats 2000000 in
theorem rrdnumber_any {h c at_ : Nat} {A : Option Addr} {bs : List UInt8} {w : World} (hr : RRd w h A c bs at_) : Calls Try.prog 40 #[.pointer (some ⟨h, 0, none⟩)] w (RNumRead w h A c bs at_) := by
  have k0 := hr.k0
  have k1 := hr.k1
  have f1 := hr.hdr.frozen 1
  have hle := hr.le
  have hmx := hr.max
  have H := hide hr
  clear hr
  go_enter Try.func40, Try.ntmps40
  go_wp2_with fail
  go_loopw [4, 5] (fun vn vi wr => ∃ (i acc m : Nat), vn = .int .u64 acc ∧ vi = .int .i64 (i : Int) ∧ i ≤ 9 ∧ acc < 128 ^ i ∧ at_ + i ≤ bs.length ∧ Hid (rdN (bs.drop (at_ + i)) i acc = rdN (bs.drop at_) 0 0) ∧ w.drewN m = wr) (fun _ vi _ => 20 - (intOf vi).toNat)
  case atStart => exact ⟨0, 0, 0, rfl, rfl, by omega, by omega, by omega, hide rfl, rfl⟩
  case round =>
    obtain ⟨i, acc, m, rfl, rfl, hi, hacc, hlen, hF, rfl⟩ := hrel
    have i10 : (i : Int) < 10 := by omega
    have i00 : (0 : Int) ≤ (i : Int) := by omega
    by_cases hlt : at_ + i < bs.length
    · have i1 : (at_ : Int) + (i : Int) < (bs.length : Int) := by omega
      have i0 : (0 : Int) ≤ (at_ : Int) + (i : Int) := by omega
      obtain ⟨x, hx⟩ : ∃ x, bs[at_ + i]? = some x := ⟨_, List.getElem?_eq_getElem hlt⟩
      obtain ⟨a, rfl, hcell⟩ := H.out.byte _ _ hx
      have hc256 := x.toNat_lt
      have hdrop : bs.drop (at_ + i) = x :: bs.drop (at_ + (i + 1)) := by
        obtain ⟨hl, rfl⟩ := List.getElem?_eq_some_iff.1 hx
        exact List.drop_eq_getElem_cons hl
      have hF' := hF.out
      rw [hdrop] at hF'
      simp only [rdN] at hF'
      have hG := hide hF'
      clear hdrop hx hF'
      go_wp2_with fail
      go_quiet (fail)
      revert nq
      intro n1
      go_wp2_with fail
      go_quiet (fail)
      obtain ⟨M, hM⟩ : ∃ M, ((w.drewN m).drewN n1).drewN nq = w.drewN M := ⟨_, by rw [World.drewN_drewN, World.drewN_drewN]⟩
      rw [hM]
      clear hM
      by_cases h9 : i = 9
      · subst h9
        by_cases hc1 : 1 < x.toNat
        · have d1 : (1 : Int) < (x.toNat : Int) := by omega
          have hres := hide (resN_none (hG.out.symm.trans (if_pos (.inl ⟨rfl, hc1⟩))))
          clear hG hF
          go_wp2_with fail
          go_ret2
          refine ⟨?_, (Only.refl _ _).drewN _, ?_⟩
          · rw [hres.out]; rfl
          · rw [hres.out]; exact H.out.only0 ((Only.refl _ _).drewN _)
        · have d1 : decide ((1 : Int) < (x.toNat : Int)) = false := by simp; omega
          by_cases hc0 : x.toNat = 0
          · have gc0 : ((x.toNat : Int) == 0) = true := by simp; omega
            have hres := hide (resN_none (hG.out.symm.trans (if_pos (.inr ⟨by omega, hc0⟩))))
            clear hG hF
            go_wp2_with fail
            go_ret2
            refine ⟨?_, (Only.refl _ _).drewN _, ?_⟩
            · rw [hres.out]; rfl
            · rw [hres.out]; exact H.out.only0 ((Only.refl _ _).drewN _)
          · have gc0 : ((x.toNat : Int) == 0) = false := by simp; omega
            have hbig : x.toNat < 128 := by omega
            have gb : (x.toNat : Int) < 128 := by omega
            have hres := hide (resN_some (hG.out.symm.trans ((if_neg (by omega)).trans (if_pos hbig))))
            have hv := hide (accr9 acc x.toNat)
            clear hG hF
            go_wp2_with fail
            go_ret2
            refine ⟨?_, ((Only.refl _ w).drewN M).setCell (.inl (by simp)) _, ?_⟩
            · rw [hres.out]
              show _ = Ending.returned (.tuple #[.int .u64 ((acc + x.toNat % 128 * 128 ^ 9 : Nat) : Int), .int .i64 0])
              rw [← hv.out]
              rfl
            · rw [hres.out]
              have hm := (H.out.only0 ((Only.refl [] _).drewN M)).move (at_ + (9 + 1)) (by omega)
              rw [show ((at_ + (9 + 1) : Nat) : Int) = (at_ : Int) + 9 + 1 from by omega] at hm
              exact hm
      · have g9 : ((i : Int) == 9) = false := by simp; omega
        have g8 : i ≤ 8 := by omega
        by_cases hi0 : i = 0
        · subst hi0
          have gi : ¬ (0 : Int) < ((0 : Nat) : Int) := by omega
          by_cases hbig : x.toNat < 128
          · have gb : (x.toNat : Int) < 128 := by omega
            have hres := hide (resN_some (hG.out.symm.trans ((if_neg (by omega)).trans (if_pos hbig))))
            have hv := hide (accr0 acc x.toNat hacc)
            clear hG hF
            go_wp2_with fail
            go_ret2
            refine ⟨?_, ((Only.refl _ w).drewN M).setCell (.inl (by simp)) _, ?_⟩
            · rw [hres.out]
              show _ = Ending.returned (.tuple #[.int .u64 ((acc + x.toNat % 128 * 128 ^ 0 : Nat) : Int), .int .i64 0])
              rw [← hv.out]
              rfl
            · rw [hres.out]
              have hm := (H.out.only0 ((Only.refl [] _).drewN M)).move (at_ + (0 + 1)) (by omega)
              rw [show ((at_ + (0 + 1) : Nat) : Int) = (at_ : Int) + 1 from by omega] at hm
              exact hm
          · have gb : ¬ (x.toNat : Int) < 128 := by omega
            have hnext := hide ((if_neg hbig).symm.trans ((if_neg (by omega)).symm.trans hG.out))
            have hv := hide (accr0 acc x.toNat hacc)
            have hacc2 := acc_lt 0 acc x.toNat hacc
            clear hG hF
            go_wp2_with fail
            go_roundw
            case rel => exact ⟨0 + 1, acc + x.toNat % 128 * 128 ^ 0, M, by rw [hv.out], by go_num, by omega, hacc2, by omega, hnext, rfl⟩
            case measure => (first | (simp [intOf]; done) | (simp [intOf]; omega))
        · have gi : (0 : Int) < (i : Int) := by omega
          by_cases hc0 : x.toNat = 0
          · have gc0 : ((x.toNat : Int) == 0) = true := by simp; omega
            have hres := hide (resN_none (hG.out.symm.trans (if_pos (.inr ⟨by omega, hc0⟩))))
            clear hG hF
            go_wp2_with fail
            go_ret2
            refine ⟨?_, (Only.refl _ _).drewN _, ?_⟩
            · rw [hres.out]; rfl
            · rw [hres.out]; exact H.out.only0 ((Only.refl _ _).drewN _)
          · have gc0 : ((x.toNat : Int) == 0) = false := by simp; omega
            by_cases hbig : x.toNat < 128
            · have gb : (x.toNat : Int) < 128 := by omega
              have hres := hide (resN_some (hG.out.symm.trans ((if_neg (by omega)).trans (if_pos hbig))))
              have hv := hide (accr i acc x.toNat hacc g8)
              clear hG hF
              go_wp2_with fail
              go_ret2
              refine ⟨?_, ((Only.refl _ w).drewN M).setCell (.inl (by simp)) _, ?_⟩
              · rw [hres.out]
                show _ = Ending.returned (.tuple #[.int .u64 ((acc + x.toNat % 128 * 128 ^ i : Nat) : Int), .int .i64 0])
                rw [← hv.out]
                rfl
              · rw [hres.out]
                have hm := (H.out.only0 ((Only.refl [] _).drewN M)).move (at_ + (i + 1)) (by omega)
                rw [show ((at_ + (i + 1) : Nat) : Int) = (at_ : Int) + i + 1 from by omega] at hm
                exact hm
            · have gb : ¬ (x.toNat : Int) < 128 := by omega
              have hnext := hide ((if_neg hbig).symm.trans ((if_neg (by omega)).symm.trans hG.out))
              have hv := hide (accr i acc x.toNat hacc g8)
              have hacc2 := acc_lt i acc x.toNat hacc
              clear hG hF
              go_wp2_with fail
              go_roundw
              case rel => exact ⟨i + 1, acc + x.toNat % 128 * 128 ^ i, M, by rw [hv.out], by go_num, by omega, hacc2, by omega, hnext, rfl⟩
              case measure => (first | (simp [intOf]; done) | (simp [intOf]; omega))
    · have d1 : decide ((at_ : Int) + (i : Int) < (bs.length : Int)) = false := by simp; omega
      have hF' := hF.out
      rw [List.drop_eq_nil_of_le (by omega)] at hF'
      simp only [rdN] at hF'
      have hres := hide (resN_none hF'.symm)
      clear hF'
      go_wp2_with fail
      go_quiet (fail)
      go_wp2_with fail
      go_ret2
      refine ⟨?_, ((Only.refl _ _).drewN _).drewN _, ?_⟩
      · rw [hres.out]; rfl
      · rw [hres.out]; exact H.out.only0 (((Only.refl _ _).drewN _).drewN _)

theorem unfolded_any (u : Nat) (hu : u < 2 ^ 64) (w : World) : Calls Try.prog 46 #[.int .u64 u] w fun e w' => e = .returned (.int .i64 (unzig u)) ∧ w = w' := by
  by_cases h : u % 2 = 1
  · have g1 : ((u : Int) % 2 == 1) = true := by simp; omega
    have e : unzig u = -((u : Int) / 2) - 1 := by unfold unzig; rw [if_pos h]; omega
    have E := hide e
    clear e
    go_enter Try.func46, Try.ntmps46
    go_wp2_with fail
    go_ret
    exact ⟨by rw [E.out]; rfl, rfl⟩
  · have g1 : ((u : Int) % 2 == 1) = false := by simp; omega
    have e : unzig u = (u : Int) / 2 := by unfold unzig; rw [if_neg h]; omega
    have E := hide e
    clear e
    go_enter Try.func46, Try.ntmps46
    go_wp2_with fail
    go_ret
    exact ⟨by rw [E.out]; rfl, rfl⟩
def RSigRead (w : World) (h : Nat) (A : Option Addr) (c : Nat) (bs : List UInt8) (at_ : Nat) (e : Ending) (w' : World) : Prop :=
  e = .returned (.tuple #[.int .i64 (unzig (resN (bs.drop at_)).1), .int .i64 (resN (bs.drop at_)).2.1]) ∧ Only [h] w w' ∧ RRd w' h A c bs (at_ + (resN (bs.drop at_)).2.2)
theorem rrdsigned_any {h c at_ : Nat} {A : Option Addr} {bs : List UInt8} {w : World} (hr : RRd w h A c bs at_) : Calls Try.prog 41 #[.pointer (some ⟨h, 0, none⟩)] w (RSigRead w h A c bs at_) := by
  have hn := rrdnumber_any hr
  have hu := resN_lt (bs.drop at_)
  unfold RNumRead at hn
  unfold RSigRead
  generalize (resN (bs.drop at_)).1 = u at hn hu ⊢
  generalize (resN (bs.drop at_)).2.1 = er at hn ⊢
  have HN := hide hn
  clear hn hr
  go_enter Try.func41, Try.ntmps41
  go_wp2_with fail
  refine HN.out.mono ?_
  rintro e w1 ⟨rfl, o1, h1⟩
  go_wp2_with (go_at_call 46; refine (unfolded_any u hu _).mono ?_; rintro e w' ⟨rfl, rfl⟩)
  go_ret2
  exact ⟨rfl, o1, h1⟩

def RFlagRead (w : World) (h : Nat) (A : Option Addr) (c : Nat) (bs : List UInt8) (at_ : Nat) (e : Ending) (w' : World) : Prop :=
  e = .returned (.tuple #[.bool (resF (bs.drop at_)).1, .int .i64 (resF (bs.drop at_)).2.1]) ∧ Only [h] w w' ∧ RRd w' h A c bs (at_ + (resF (bs.drop at_)).2.2)
set_option maxHeartbeats 1000000 in
theorem rrdflag_any {h c at_ : Nat} {A : Option Addr} {bs : List UInt8} {w : World} (hr : RRd w h A c bs at_) : Calls Try.prog 42 #[.pointer (some ⟨h, 0, none⟩)] w (RFlagRead w h A c bs at_) := by
  have k0 := hr.k0
  have k1 := hr.k1
  have f1 := hr.hdr.frozen 1
  have hle := hr.le
  have hmx := hr.max
  have H := hide hr
  clear hr
  unfold RFlagRead
  by_cases hlt : at_ < bs.length
  · obtain ⟨x, hc⟩ : ∃ x, bs[at_]? = some x := ⟨_, List.getElem?_eq_getElem hlt⟩
    obtain ⟨a, rfl, hcell⟩ := H.out.byte _ _ hc
    have hdrop : bs.drop at_ = x :: bs.drop (at_ + 1) := by
      obtain ⟨hl, rfl⟩ := List.getElem?_eq_some_iff.1 hc
      exact List.drop_eq_getElem_cons hl
    rw [hdrop]
    simp only [resF]
    have hc256 := x.toNat_lt
    have i0 : (0 : Int) ≤ (at_ : Int) := by omega
    have i1 : (at_ : Int) < (bs.length : Int) := by omega
    have d0 : (((bs.length - at_ : Nat) : Int) == 0) = false := by simp; omega
    clear hdrop hc
    by_cases hb : 1 < x.toNat
    · simp only [if_pos hb]
      have d1 : (1 : Int) < (x.toNat : Int) := by omega
      go_enter Try.func42, Try.ntmps42
      go_wp2_with fail
      go_big_quiet (first | (go_at_call 32; exact quiet_some (rleft_any (H.out.only0 ((Only.refl [] _).drewN _)))))
      go_wp2
      go_ret2
      exact ⟨rfl, (Only.refl _ _).drewN _, H.out.only0 ((Only.refl _ _).drewN _)⟩
    · simp only [if_neg hb]
      have d1 : decide ((1 : Int) < (x.toNat : Int)) = false := by simp; omega
      go_enter Try.func42, Try.ntmps42
      go_wp2_with fail
      go_big_quiet (first | (go_at_call 32; exact quiet_some (rleft_any (H.out.only0 ((Only.refl [] _).drewN _)))))
      go_wp2_with fail
      have hmv := (H.out.only0 ((Only.refl [] _).drewN nq)).move (at_ + 1) hlt
      have o2 : Only [h] w ((w.drewN nq).setCell ⟨h, 1, none⟩ (.int .i64 ((at_ + 1 : Nat) : Int))) := ((Only.refl _ w).drewN nq).setCell (.inl (by simp)) _
      have hcell2 := o2.keep hcell (by rw [block_of_add]; simpa using H.out.ne (by omega) a rfl)
      rw [show ((at_ + 1 : Nat) : Int) = (at_ : Int) + 1 from by omega] at hmv o2 hcell2
      generalize (w.drewN nq).setCell ⟨h, 1, none⟩ (.int .i64 ((at_ : Int) + 1)) = w2 at hmv o2 hcell2 ⊢
      have t0 := hmv.k0
      have t1 := hmv.k1
      have HM := hide hmv
      clear k0 k1 f1 hmv hcell
      go_quiet (fail)
      go_wp2
      go_ret2
      refine ⟨?_, o2.drewN _, HM.out.only0 ((Only.refl _ _).drewN _)⟩
      have e1 : ((x.toNat : Int) == 1) = decide (x.toNat = 1) := by
        by_cases h1 : x.toNat = 1
        · simp [h1]
        · simp [h1]; omega
      rw [← e1]
      rfl
  · rw [List.drop_eq_nil_of_le (by omega)]
    simp only [resF]
    have d0 : (((bs.length - at_ : Nat) : Int) == 0) = true := by simp; omega
    go_enter Try.func42, Try.ntmps42
    go_wp2_with fail
    go_big_quiet (first | (go_at_call 32; exact quiet_some (rleft_any (H.out.only0 ((Only.refl [] _).drewN _)))))
    go_wp2
    go_ret2
    exact ⟨rfl, (Only.refl _ _).drewN _, H.out.only0 ((Only.refl _ _).drewN _)⟩
end Go.Proofs.Ytdaeaepfbnlaeaa
