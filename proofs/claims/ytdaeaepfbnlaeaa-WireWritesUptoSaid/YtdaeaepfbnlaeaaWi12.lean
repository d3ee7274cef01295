/- Walks over the document's reader: Bytes. No condition. -/
import Derived.Test.YtdaeaepfbnlaeaaWi11
import Derived.Deep.Slices
import Derived.BigRegion
namespace Go.Proofs.Ytdaeaepfbnlaeaa
open Go.RowKit
set_option linter.unusedVariables false
set_option linter.all false
set_option maxRecDepth 20000
attribute [local go_sem ↓] app_hide

def RBytesRead (w : World) (h : Nat) (A : Option Addr) (c : Nat) (bs : List UInt8) (at_ : Nat) (er : Int) (ds : List UInt8) (k : Nat) (e : Ending) (w' : World) : Prop :=
  Only [h] w w' ∧ RRd w' h A c bs (at_ + k) ∧ ∃ (A' : Option Addr) (c' : Nat), e = .returned (.tuple #[.slice A' ds.length c', .int .i64 er]) ∧ w'.ownsRow w.heap.size 5 1 (.slice A' ds.length c') ds.length (U8s ds)

set_option maxHeartbeats 2000000 in
theorem rrdbytes_any {h c at_ : Nat} {A : Option Addr} {bs : List UInt8} {w : World} (most : Int) (h0 : 0 ≤ most) (hm : most ≤ 9223372036854775807) (hr : RRd w h A c bs at_) :
    Calls Try.prog 43 #[.pointer (some ⟨h, 0, none⟩), .int .i64 most] w (RBytesRead w h A c bs at_ (resB most (bs.drop at_)).1 (resB most (bs.drop at_)).2.1 (resB most (bs.drop at_)).2.2) := by
  have hn := rrdnumber_any hr
  have hu := resN_lt (bs.drop at_)
  have he := resN_err (bs.drop at_)
  have hk := resN_le (bs.drop at_)
  have hemp : (resN (bs.drop at_)).2.1 = 0 → 0 < bs.length := fun h1 => by
    rcases Nat.eq_zero_or_pos bs.length with h2 | h2
    · obtain rfl := List.eq_nil_of_length_eq_zero h2
      simp [resN, rdN] at h1
    · exact h2
  unfold RNumRead at hn
  unfold resB resC
  simp only [if_neg (by omega : ¬ most < 0)]
  generalize (resN (bs.drop at_)).1 = n at hn hu ⊢
  generalize (resN (bs.drop at_)).2.1 = er at hn he hemp ⊢
  generalize (resN (bs.drop at_)).2.2 = k at hn hk ⊢
  rw [List.length_drop] at hk ⊢
  have hle := hr.le
  have hmx := hr.max
  have k1 := hr.k1
  have HC := hide hn
  have H := hide hr
  clear hn hr
  by_cases he0 : er = 0
  · subst he0
    simp only [if_true]
    by_cases hb : most < (n : Int)
    · simp only [if_pos hb, if_neg (by decide : ¬ (3 : Int) = 0)]
      go_enter Try.func43, Try.ntmps43
      go_wp2_with fail
      refine HC.out.mono ?_
      rintro e w1 ⟨rfl, o1, h1⟩
      have g1 := h1.hdr.frozen 1
      have t1 := h1.k1
      have H1 := hide h1
      clear h1
      go_wp2_with fail
      go_ret2
      have hmv := H1.out.move at_ hle
      exact ⟨o1.setCell (.inl (by simp)) _, hmv, none, 0, rfl, ⟨rfl, .inl ⟨rfl, rfl⟩⟩⟩
    · simp only [if_neg hb, if_true]
      by_cases hb2 : ((bs.length - at_ - k : Nat) : Int) < (n : Int)
      · simp only [if_pos hb2]
        have hb' : ((bs.length - (at_ + k) : Nat) : Int) < (n : Int) := by omega
        clear hb2
        go_enter Try.func43, Try.ntmps43
        go_wp2_with fail
        refine HC.out.mono ?_
        rintro e w1 ⟨rfl, o1, h1⟩
        have g1 := h1.hdr.frozen 1
        have t1 := h1.k1
        have H1 := hide h1
        clear h1
        go_wp2_with (go_at_call 32; refine (rleft_any H1.out).mono ?_; rintro e w' ⟨rfl, q, rfl⟩)
        go_ret2
        have hmv := (H1.out.only0 ((Only.refl [] _).drewN q)).move at_ hle
        exact ⟨(o1.drewN q).setCell (.inl (by simp)) _, hmv, none, 0, rfl, ⟨rfl, .inl ⟨rfl, rfl⟩⟩⟩
      · simp only [if_neg hb2]
        rw [Int.toNat_natCast]
        obtain ⟨nn, rfl⟩ : ∃ nn, nn = n := ⟨_, rfl⟩
        have hfit : at_ + k + nn ≤ bs.length := by omega
        have hb' : ¬ ((bs.length - (at_ + k) : Nat) : Int) < (nn : Int) := by omega
        clear hb2 he
        obtain ⟨lo, hlo⟩ : ∃ lo, lo = at_ + k := ⟨_, rfl⟩
        obtain ⟨a, rfl⟩ : ∃ a, A = some a := by
          obtain ⟨a, ha, _⟩ := H.out.src (hemp rfl)
          exact ⟨a, ha⟩
        have hcap := H.out.cap
        clear hemp
        go_enter Try.func43, Try.ntmps43
        go_wp2_with fail
        refine HC.out.mono ?_
        rintro e w1 ⟨rfl, o1, h1⟩
        rw [← hlo] at h1 hb' hfit
        have g1 := h1.hdr.frozen 1
        have t1 := h1.k1
        have H1 := hide h1
        have HLO := hide hlo
        clear h1 hlo hk k1
        go_wp2_with (go_at_call 32; refine (rleft_any H1.out).mono ?_; rintro e w' ⟨rfl, q, rfl⟩)
        have hmv := (H1.out.only0 ((Only.refl [] _).drewN q)).move (lo + nn) hfit
        have o2 : Only [h] w ((w1.drewN q).setCell ⟨h, 1, none⟩ (.int .i64 ((lo + nn : Nat) : Int))) := (o1.drewN q).setCell (.inl (by simp)) _
        rw [show ((lo + nn : Nat) : Int) = (lo : Int) + nn from by omega] at hmv o2
        generalize (w1.drewN q).setCell ⟨h, 1, none⟩ (.int .i64 ((lo : Int) + nn)) = w2 at hmv o2 ⊢
        have t0 := hmv.k0
        have t1 := hmv.k1
        have hgl := hmv.hdr.lt
        have s0 : (0 : Int) ≤ (lo : Int) := by omega
        have s1 : (lo : Int) ≤ ((lo + nn : Nat) : Int) := by omega
        have s2 : ((lo + nn : Nat) : Int) ≤ (c : Int) := by omega
        have hsrc : Src w2 (if c = lo then some a else some (a.add lo)) ((bs.drop lo).take nn) := fun hp => by
          have hp' : 0 < nn := by simp at hp; omega
          obtain ⟨a', ha', hc⟩ := hmv.src (by omega)
          obtain rfl : a = a' := by simpa using ha'
          rw [if_neg (by omega)]
          refine ⟨_, rfl, fun j u hj => ?_⟩
          have hjn : j < (U8s ((bs.drop lo).take nn)).length := (List.getElem?_eq_some_iff.1 hj).1
          rw [length_U8s, List.length_take] at hjn
          rw [Go.Deep.add_add]
          refine hc (lo + j) u ?_
          rw [← hj, U8s_get, U8s_get, List.getElem?_take_of_lt (by omega), List.getElem?_drop]
        obtain ⟨A3, c3, w3, hrun, hrow3, o3, hk3, hA3⟩ := run_app_src w2.heap.size none 0 0 [] (if c = lo then some a else some (a.add lo)) (lo + nn - lo) (c - lo) ((bs.drop lo).take nn) w2.drew
          ⟨rfl, .inl ⟨rfl, rfl⟩⟩ (by simp; omega) hsrc.drew (by omega) (by simp)
        rw [Nat.zero_add] at hrun hrow3
        have oo : Only [] w2 w3 := ((Only.refl [] w2).drew).trans o3 (fun x hx => by simp [blkOf] at hx)
        have hmv3 := hmv.only0 oo
        have o4 := o2.trans0 oo
        have HR := hide hrow3
        have hsz := o2.size
        clear hrow3 hk3 hA3 o3 hsrc
        have hrun2 := hrun
        rw [show lo + nn - lo = nn from by omega] at hrun2
        by_cases hcl : c = lo
        · rw [if_pos hcl] at hrun hrun2
          subst hcl
          rw [Nat.sub_self] at hrun hrun2
          go_region
          go_wp2_with fail
          go_ret2
          have hl : ((bs.drop c).take nn).length = nn := by simp; omega
          have hrr := own_mono (base' := w.heap.size) HR.out hsz
          rw [List.nil_append, show c + nn - c = nn from by omega] at hrr
          refine ⟨o4, ?_, A3, c3, ?_, ?_⟩
          · have := HLO.out
            rw [show at_ + (k + nn) = c + nn by omega]
            exact hmv3
          · rw [List.drop_drop, show at_ + k = c from HLO.out.symm, hl]
            rfl
          · rw [List.drop_drop, show at_ + k = c from HLO.out.symm, hl]
            exact hrr
        · rw [if_neg hcl] at hrun hrun2
          go_region
          go_wp2_with fail
          go_ret2
          have hl : ((bs.drop lo).take nn).length = nn := by simp; omega
          have hrr := own_mono (base' := w.heap.size) HR.out hsz
          rw [List.nil_append, show lo + nn - lo = nn from by omega] at hrr
          refine ⟨o4, ?_, A3, c3, ?_, ?_⟩
          · have := HLO.out
            rw [show at_ + (k + nn) = lo + nn by omega]
            exact hmv3
          · rw [List.drop_drop, show at_ + k = lo from HLO.out.symm, hl]
            rfl
          · rw [List.drop_drop, show at_ + k = lo from HLO.out.symm, hl]
            exact hrr
  · have he4 : er = 4 := by omega
    subst he4
    simp only [if_neg he0]
    go_enter Try.func43, Try.ntmps43
    go_wp2_with fail
    refine HC.out.mono ?_
    rintro e w1 ⟨rfl, o1, h1⟩
    have g1 := h1.hdr.frozen 1
    have t1 := h1.k1
    have H1 := hide h1
    clear h1
    go_wp2_with fail
    go_ret2
    have hmv := H1.out.move at_ hle
    exact ⟨o1.setCell (.inl (by simp)) _, hmv, none, 0, rfl, ⟨rfl, .inl ⟨rfl, rfl⟩⟩⟩
end Go.Proofs.Ytdaeaepfbnlaeaa
