/- Walks over wire: the reader's Signed, count, Bytes, Flag. No condition. -/
import Derived.Test.YtdaeaepfbnlaeaaWi4
import Derived.BigRegion
namespace Go.Proofs.Ytdaeaepfbnlaeaa
open Go.RowKit
set_option linter.unusedVariables false
set_option linter.all false
set_option maxRecDepth 20000
attribute [local go_sem ↓] app_hide

theorem num_any (n : Int) (w : World) : Calls Try.prog 24 #[.int .i64 n] w fun e w' => e = .returned (.int .i64 n) ∧ w = w' := by
  go_enter Try.func24, Try.ntmps24
  go_wp2
  go_ret
  exact ⟨rfl, rfl⟩
theorem resN_lt (l : List UInt8) : (resN l).1 < 2 ^ 64 := by
  unfold resN
  split
  · exact Nat.two_pow_pos 64
  · rename_i v k h
    exact (rdN_bound l 0 0 v k h (by omega) (by omega)).1
theorem resN_err (l : List UInt8) : (resN l).2.1 = 0 ∨ (resN l).2.1 = 4 := by
  unfold resN
  split
  · exact .inr rfl
  · exact .inl rfl

theorem xor_comm64 (a b : Int) : bits .xor .i64 a b = bits .xor .i64 b a := by
  show IntKind.i64.wrap ((BitVec.ofInt 64 a ^^^ BitVec.ofInt 64 b).toNat : Int) = IntKind.i64.wrap ((BitVec.ofInt 64 b ^^^ BitVec.ofInt 64 a).toNat : Int)
  rw [BitVec.xor_comm]
theorem i64_xor0 (x : Nat) (hx : x < 9223372036854775808) : bits .xor .i64 (x : Int) 0 = (x : Int) := by
  show IntKind.i64.wrap ((BitVec.ofInt 64 (x : Int) ^^^ BitVec.ofInt 64 0).toNat : Int) = _
  have e : (BitVec.ofInt 64 (x : Int) ^^^ BitVec.ofInt 64 0).toNat = x := by
    simp [BitVec.toNat_ofInt]
    omega
  rw [e]
  exact IntWalk.i64_in _ (by omega)
theorem unzig_bits (u : Nat) (hu : u < 2 ^ 64) : bits .xor .i64 ((u : Int) / 2) (wrap64 (-wrap64 (bits .and .u64 (u : Int) 1))) = unzig u := by
  rw [Lib.u64_and1 _ (by omega) (by omega)]
  have e0 : ((u : Int) / 2) = ((u / 2 : Nat) : Int) := by omega
  unfold unzig
  by_cases h : u % 2 = 1
  · rw [if_pos h, show (u : Int) % 2 = 1 by omega, show wrap64 (-wrap64 1) = -1 by decide +kernel, xor_comm64, e0, Lib.i64_not _ (by omega)]
  · rw [if_neg h, show (u : Int) % 2 = 0 by omega, show wrap64 (-wrap64 0) = 0 by decide +kernel, e0, i64_xor0 _ (by omega)]

def SigRead (w : World) (g gb cap : Nat) (bs : List UInt8) (at_ : Nat) (e : Ending) (w' : World) : Prop :=
  e = .returned (.tuple #[.int .i64 (unzig (resN (bs.drop at_)).1), .int .i64 (resN (bs.drop at_)).2.1]) ∧ Only [g] w w' ∧ Rd w' g gb cap bs (at_ + (resN (bs.drop at_)).2.2)
theorem rdsigned_any {g gb cap at_ : Nat} {bs : List UInt8} {w : World} (h : Rd w g gb cap bs at_) : Calls Try.prog 21 #[.pointer (some ⟨g, 0, none⟩)] w (SigRead w g gb cap bs at_) := by
  have hn := rdnumber_any h
  have hu := resN_lt (bs.drop at_)
  unfold NumRead at hn
  unfold SigRead
  generalize (resN (bs.drop at_)).1 = u at hn hu ⊢
  generalize (resN (bs.drop at_)).2.1 = er at hn ⊢
  have HN := hide hn
  clear hn h
  go_enter Try.func21, Try.ntmps21
  go_wp2_with fail
  refine HN.out.mono ?_
  rintro e w1 ⟨rfl, o1, h1⟩
  go_wp2_with fail
  rw [unzig_bits u hu]
  go_ret2
  exact ⟨rfl, o1, h1⟩

def resC (most : Int) (l : List UInt8) : Int × Int × Nat :=
  if most < 0 then (0, 2, 0) else if (resN l).2.1 = 0 then (if most < ((resN l).1 : Int) then (0, 3, (resN l).2.2) else ((resN l).1, 0, (resN l).2.2)) else (0, (resN l).2.1, (resN l).2.2)
def CountRead (w : World) (g gb cap : Nat) (bs : List UInt8) (at_ : Nat) (most : Int) (e : Ending) (w' : World) : Prop :=
  e = .returned (.tuple #[.int .i64 (resC most (bs.drop at_)).1, .int .i64 (resC most (bs.drop at_)).2.1]) ∧ Only [g] w w' ∧ Rd w' g gb cap bs (at_ + (resC most (bs.drop at_)).2.2)
theorem count_any {g gb cap at_ : Nat} {bs : List UInt8} {w : World} (most : Int) (hm : most ≤ 9223372036854775807) (h : Rd w g gb cap bs at_) : Calls Try.prog 39 #[.pointer (some ⟨g, 0, none⟩), .int .i64 most] w (CountRead w g gb cap bs at_ most) := by
  unfold CountRead resC
  by_cases h0 : most < 0
  · simp only [if_pos h0]
    have H := hide h
    clear h
    go_enter Try.func39, Try.ntmps39
    go_wp2
    go_ret2
    exact ⟨rfl, Only.refl _ _, H.out⟩
  · simp only [if_neg h0]
    have hn := rdnumber_any h
    have hu := resN_lt (bs.drop at_)
    have he := resN_err (bs.drop at_)
    unfold NumRead at hn
    generalize (resN (bs.drop at_)).1 = u at hn hu ⊢
    generalize (resN (bs.drop at_)).2.1 = er at hn he ⊢
    generalize (resN (bs.drop at_)).2.2 = k at hn ⊢
    rcases he with rfl | rfl
    · by_cases hb : most < (u : Int)
      · simp only [if_pos hb, if_true]
        have HN := hide hn
        clear hn h
        go_enter Try.func39, Try.ntmps39
        go_wp2_with fail
        refine HN.out.mono ?_
        rintro e w1 ⟨rfl, o1, h1⟩
        go_wp2_with fail
        go_ret2
        exact ⟨rfl, o1, h1⟩
      · simp only [if_neg hb, if_true]
        have HN := hide hn
        clear hn h
        go_enter Try.func39, Try.ntmps39
        go_wp2_with fail
        refine HN.out.mono ?_
        rintro e w1 ⟨rfl, o1, h1⟩
        go_wp2_with fail
        go_ret2
        exact ⟨rfl, o1, h1⟩
    · simp only [if_neg (by decide : ¬ (4 : Int) = 0)]
      have HN := hide hn
      clear hn h
      go_enter Try.func39, Try.ntmps39
      go_wp2_with fail
      refine HN.out.mono ?_
      rintro e w1 ⟨rfl, o1, h1⟩
      go_wp2_with fail
      go_ret2
      exact ⟨rfl, o1, h1⟩

/-- What reading bytes answers: the error, the bytes, how far the place moves. -/
def resB (most : Int) (l : List UInt8) : Int × List UInt8 × Nat :=
  if (resC most l).2.1 = 0 then (if ((l.length - (resC most l).2.2 : Nat) : Int) < (resC most l).1 then (4, [], 0) else (0, (l.drop (resC most l).2.2).take (resC most l).1.toNat, (resC most l).2.2 + (resC most l).1.toNat)) else ((resC most l).2.1, [], 0)
theorem resC_facts (most : Int) (l : List UInt8) : (resC most l).2.2 ≤ l.length ∧ 0 ≤ (resC most l).1 ∧ (0 ≤ most → (resC most l).1 ≤ most) ∧ ((resC most l).2.1 = 0 ∨ (resC most l).2.1 = 2 ∨ (resC most l).2.1 = 3 ∨ (resC most l).2.1 = 4) := by
  have h1 := resN_le l
  have h2 := resN_err l
  unfold resC
  by_cases h0 : most < 0
  · simp only [if_pos h0]
    exact ⟨Nat.zero_le _, Int.le_refl _, fun h => by omega, .inr (.inl trivial)⟩
  · simp only [if_neg h0]
    by_cases he : (resN l).2.1 = 0
    · simp only [if_pos he]
      by_cases hm : most < ((resN l).1 : Int)
      · simp only [if_pos hm]
        exact ⟨h1, Int.le_refl _, fun h => h, .inr (.inr (.inl trivial))⟩
      · simp only [if_neg hm]
        exact ⟨h1, by omega, fun h => by omega, .inl trivial⟩
    · simp only [if_neg he]
      exact ⟨h1, Int.le_refl _, fun h => h, by omega⟩

/-- The reader's bytes, told. -/
def BytesRead (w : World) (g gb cap : Nat) (bs : List UInt8) (at_ : Nat) (er : Int) (ds : List UInt8) (k : Nat) (e : Ending) (w' : World) : Prop :=
  Only [g] w w' ∧ Rd w' g gb cap bs (at_ + k) ∧ ∃ (A : Option Addr) (c : Nat), e = .returned (.tuple #[.slice A ds.length c, .int .i64 er]) ∧ w'.ownsRow w.heap.size 5 1 (.slice A ds.length c) ds.length (U8s ds)

set_option maxHeartbeats 2000000 in
theorem rdbytes_any {g gb cap at_ : Nat} {bs : List UInt8} {w : World} (most : Int) (hm : most ≤ 9223372036854775807) (h : Rd w g gb cap bs at_) :
    Calls Try.prog 22 #[.pointer (some ⟨g, 0, none⟩), .int .i64 most] w (BytesRead w g gb cap bs at_ (resB most (bs.drop at_)).1 (resB most (bs.drop at_)).2.1 (resB most (bs.drop at_)).2.2) := by
  have hc := count_any most hm h
  obtain ⟨f1, f2, f3, f4⟩ := resC_facts most (bs.drop at_)
  unfold CountRead at hc
  unfold resB
  generalize (resC most (bs.drop at_)).1 = n at hc f1 f2 f3 f4 ⊢
  generalize (resC most (bs.drop at_)).2.1 = er at hc f1 f2 f3 f4 ⊢
  generalize (resC most (bs.drop at_)).2.2 = k at hc f1 f2 f3 f4 ⊢
  rw [List.length_drop] at f1 ⊢
  have hle := h.le
  have hmx := h.max
  have k1 := h.k1
  have HC := hide hc
  have H := hide h
  clear hc h
  by_cases he : er = 0
  · subst he
    simp only [if_true]
    by_cases hb : ((bs.length - at_ - k : Nat) : Int) < n
    · simp only [if_pos hb]
      have hb' : ((bs.length - (at_ + k) : Nat) : Int) < n := by omega
      clear f3 f4 hb
      go_enter Try.func22, Try.ntmps22
      go_wp2_with fail
      refine (there_yes H.out).mono ?_
      rintro e w' ⟨rfl, rfl⟩
      go_wp2_with fail
      refine HC.out.mono ?_
      rintro e w1 ⟨rfl, o1, h1⟩
      have g1 := h1.hdr.frozen 1
      have t1 := h1.k1
      have H1 := hide h1
      clear h1
      go_wp2_with (go_at_call 26; refine (left_any H1.out).mono ?_; rintro e w' ⟨rfl, q, rfl⟩)
      go_ret2
      have hmv := (H1.out.only0 ((Only.refl [] _).drewN q)).move at_ hle
      refine ⟨(o1.drewN q).setCell (.inl (by simp)) _, hmv, none, 0, rfl, ⟨rfl, .inl ⟨rfl, rfl⟩⟩⟩
    · simp only [if_neg hb]
      obtain ⟨nn, rfl⟩ : ∃ nn : Nat, n = nn := ⟨n.toNat, by omega⟩
      rw [Int.toNat_natCast]
      have hfit : at_ + k + nn ≤ bs.length := by omega
      have hb' : ¬ ((bs.length - (at_ + k) : Nat) : Int) < (nn : Int) := by omega
      clear f3 f4 hb
      obtain ⟨lo, hlo⟩ : ∃ lo, lo = at_ + k := ⟨_, rfl⟩
      go_enter Try.func22, Try.ntmps22
      go_wp2_with fail
      refine (there_yes H.out).mono ?_
      rintro e w' ⟨rfl, rfl⟩
      go_wp2_with fail
      refine HC.out.mono ?_
      rintro e w1 ⟨rfl, o1, h1⟩
      rw [← hlo] at h1 hb' hfit
      have g1 := h1.hdr.frozen 1
      have t1 := h1.k1
      have H1 := hide h1
      have HLO := hide hlo
      clear h1 hlo f1 k1
      go_wp2_with (go_at_call 26; refine (left_any H1.out).mono ?_; rintro e w' ⟨rfl, q, rfl⟩)
      have hmv := (H1.out.only0 ((Only.refl [] _).drewN q)).move (lo + nn) hfit
      have o2 : Only [g] w ((w1.drewN q).setCell ⟨g, 1, none⟩ (.int .i64 ((lo + nn : Nat) : Int))) := (o1.drewN q).setCell (.inl (by simp)) _
      rw [show ((lo + nn : Nat) : Int) = (lo : Int) + nn from by omega] at hmv o2
      generalize (w1.drewN q).setCell ⟨g, 1, none⟩ (.int .i64 ((lo : Int) + nn)) = w2 at hmv o2 ⊢
      have t0 := hmv.k0
      have t1 := hmv.k1
      obtain ⟨hgl, hgl2⟩ := hmv.lt
      have s0 : (0 : Int) ≤ (lo : Int) := by omega
      have s1 : (lo : Int) ≤ ((lo + nn : Nat) : Int) := by omega
      have hcap := (own_cap hmv.row).1
      have s2 : ((lo + nn : Nat) : Int) ≤ (cap : Int) := by omega
      have hsrc : Src w2 (if cap = lo then some ⟨gb, 0, none⟩ else some ⟨gb, lo, none⟩) ((bs.drop lo).take nn) := fun hp => by
        have hp' : 0 < nn := by simp at hp; omega
        rw [if_neg (by omega)]
        refine ⟨_, rfl, fun j u hj => ?_⟩
        have hjn : j < (U8s ((bs.drop lo).take nn)).length := (List.getElem?_eq_some_iff.1 hj).1
        rw [length_U8s, List.length_take] at hjn
        rw [add_mk, hmv.row.cellAt (lo + j) (by omega), ← hj, U8s_get, U8s_get, List.getElem?_take_of_lt (by omega), List.getElem?_drop]
      have hw0 : Blk (w2.alloc (.cells #[] 5)) w2.heap.size 5 ([] : List Value).toArray := Blk.new w2 5 #[]
      obtain ⟨A3, c3, w3, hrun, hrow3, o3, hk3, hA3⟩ := run_app_src w2.heap.size (some ⟨w2.heap.size, 0, none⟩) 0 0 [] (if cap = lo then some ⟨gb, 0, none⟩ else some ⟨gb, lo, none⟩) (lo + nn - lo) (cap - lo) ((bs.drop lo).take nn) ((w2.alloc (.cells #[] 5)).drew)
        (own_of_block (base := w2.heap.size) (n := 0) (cap := 0) (cur := []) hw0.drew rfl (Nat.le_refl _) (by unfold maxLen; omega) (Nat.le_refl _)) (by simp; omega) ((hsrc.alloc _).drew) (by omega) (by simp)
      rw [Nat.zero_add] at hrun hrow3
      have oo : Only [] w2 w3 := (((Only.refl [] w2).alloc _).drew).trans o3 (fun x hx => .inr (by simp [blkOf] at hx; omega))
      have hmv3 := hmv.only0 oo
      have o4 := o2.trans0 oo
      have HR := hide hrow3
      have hsz := o2.size
      clear hrow3 hk3 hA3 o3 hsrc hw0
      have hrun2 := hrun
      rw [show lo + nn - lo = nn from by omega] at hrun2
      by_cases hcl : cap = lo
      · rw [if_pos hcl] at hrun hrun2
        subst hcl
        rw [Nat.sub_self] at hrun hrun2
        go_region
        go_wp2_with fail
        go_ret2
        have hl : ((bs.drop cap).take nn).length = nn := by simp; omega
        have hrr := own_mono (base' := w.heap.size) HR.out hsz
        rw [List.nil_append, show cap + nn - cap = nn from by omega] at hrr
        refine ⟨o4, ?_, A3, c3, ?_, ?_⟩
        · have := HLO.out
          rw [show at_ + (k + nn) = cap + nn by omega]
          exact hmv3
        · rw [List.drop_drop, show at_ + k = cap from HLO.out.symm, hl]
          rfl
        · rw [List.drop_drop, show at_ + k = cap from HLO.out.symm, hl]
          exact hrr
      · rw [if_neg hcl] at hrun hrun2
        go_region
        go_wp2_with fail
        go_ret2
        have hl : ((bs.drop lo).take nn).length = nn := by simp; omega
        have hrr := own_mono (base' := w.heap.size) HR.out hsz
        rw [List.nil_append, show lo + nn - lo = nn from by omega] at hrr
        refine ⟨o4, ?_, A3, c3, ?_, ?_⟩
        · have := HLO.out
          rw [show at_ + (k + nn) = lo + nn by omega]
          exact hmv3
        · rw [List.drop_drop, show at_ + k = lo from HLO.out.symm, hl]
          rfl
        · rw [List.drop_drop, show at_ + k = lo from HLO.out.symm, hl]
          exact hrr
  · simp only [if_neg he]
    have he' : (er == 0) = false := by simpa using he
    clear f3
    go_enter Try.func22, Try.ntmps22
    go_wp2_with fail
    refine (there_yes H.out).mono ?_
    rintro e w' ⟨rfl, rfl⟩
    go_wp2_with fail
    refine HC.out.mono ?_
    rintro e w1 ⟨rfl, o1, h1⟩
    have g1 := h1.hdr.frozen 1
    have t1 := h1.k1
    have H1 := hide h1
    clear h1
    go_wp2_with fail
    go_ret2
    have hmv := H1.out.move at_ hle
    refine ⟨o1.setCell (.inl (by simp)) _, hmv, none, 0, rfl, ⟨rfl, .inl ⟨rfl, rfl⟩⟩⟩
end Go.Proofs.Ytdaeaepfbnlaeaa
