/- Walks over wire: the reader's Signed, count, Bytes, Flag. No condition. -/
import Derived.Test.YtmaljajdmgkakaaGreatDoorWi4
import Derived.BigRegion
namespace Go.Proofs.YtmaljajdmgkakaaGreatDoor
open Go.RowKit
set_option linter.unusedVariables false
set_option linter.all false
set_option maxRecDepth 20000
attribute [local go_sem ↓] app_hide

theorem resN_lt (l : List UInt8) : (resN l).1 < 2 ^ 64 := by
  unfold resN
  split
  · exact Nat.two_pow_pos 64
  · rename_i v k h
    exact (rdN_bound l 0 0 v k h (by omega) (by omega)).1
theorem resN_err (l : List UInt8) : (resN l).2.1 = 0 ∨ (resN l).2.1 = 4 := by
  unfold resN
  split
  · exact .inr rfl
  · exact .inl rfl

theorem xor_comm64 (a b : Int) : bits .xor .i64 a b = bits .xor .i64 b a := by
  show IntKind.i64.wrap ((BitVec.ofInt 64 a ^^^ BitVec.ofInt 64 b).toNat : Int) = IntKind.i64.wrap ((BitVec.ofInt 64 b ^^^ BitVec.ofInt 64 a).toNat : Int)
  rw [BitVec.xor_comm]
theorem i64_xor0 (x : Nat) (hx : x < 9223372036854775808) : bits .xor .i64 (x : Int) 0 = (x : Int) := by
  show IntKind.i64.wrap ((BitVec.ofInt 64 (x : Int) ^^^ BitVec.ofInt 64 0).toNat : Int) = _
  have e : (BitVec.ofInt 64 (x : Int) ^^^ BitVec.ofInt 64 0).toNat = x := by
    simp [BitVec.toNat_ofInt]
    omega
  rw [e]
  exact IntWalk.i64_in _ (by omega)
theorem unzig_bits (u : Nat) (hu : u < 2 ^ 64) : bits .xor .i64 ((u : Int) / 2) (wrap64 (-wrap64 (bits .and .u64 (u : Int) 1))) = unzig u := by
  rw [Lib.u64_and1 _ (by omega) (by omega)]
  have e0 : ((u : Int) / 2) = ((u / 2 : Nat) : Int) := by omega
  unfold unzig
  by_cases h : u % 2 = 1
  · rw [if_pos h, show (u : Int) % 2 = 1 by omega, show wrap64 (-wrap64 1) = -1 by decide +kernel, xor_comm64, e0, Lib.i64_not _ (by omega)]
  · rw [if_neg h, show (u : Int) % 2 = 0 by omega, show wrap64 (-wrap64 0) = 0 by decide +kernel, e0, i64_xor0 _ (by omega)]

def SigRead (w : World) (g gb cap : Nat) (bs : List UInt8) (at_ : Nat) (e : Ending) (w' : World) : Prop :=
  e = .returned (.tuple #[.int .i64 (unzig (resN (bs.drop at_)).1), .int .i64 (resN (bs.drop at_)).2.1]) ∧ Only [g] w w' ∧ Rd w' g gb cap bs (at_ + (resN (bs.drop at_)).2.2)
theorem rdsigned_any {g gb cap at_ : Nat} {bs : List UInt8} {w : World} (h : Rd w g gb cap bs at_) : Calls Tryz.prog 35 #[.pointer (some ⟨g, 0, none⟩)] w (SigRead w g gb cap bs at_) := by
  have hn := rdnumber_any h
  have hu := resN_lt (bs.drop at_)
  unfold NumRead at hn
  unfold SigRead
  generalize (resN (bs.drop at_)).1 = u at hn hu ⊢
  generalize (resN (bs.drop at_)).2.1 = er at hn ⊢
  have HN := hide hn
  clear hn h
  go_enter Tryz.func35, Tryz.ntmps35
  go_wp2_with fail
  refine HN.out.mono ?_
  rintro e w1 ⟨rfl, o1, h1⟩
  go_wp2_with fail
  rw [unzig_bits u hu]
  go_ret2
  exact ⟨rfl, o1, h1⟩

def resC (most : Int) (l : List UInt8) : Int × Int × Nat :=
  if most < 0 then (0, 2, 0) else if (resN l).2.1 = 0 then (if most < ((resN l).1 : Int) then (0, 3, (resN l).2.2) else ((resN l).1, 0, (resN l).2.2)) else (0, (resN l).2.1, (resN l).2.2)
def CountRead (w : World) (g gb cap : Nat) (bs : List UInt8) (at_ : Nat) (most : Int) (e : Ending) (w' : World) : Prop :=
  e = .returned (.tuple #[.int .i64 (resC most (bs.drop at_)).1, .int .i64 (resC most (bs.drop at_)).2.1]) ∧ Only [g] w w' ∧ Rd w' g gb cap bs (at_ + (resC most (bs.drop at_)).2.2)
theorem count_any {g gb cap at_ : Nat} {bs : List UInt8} {w : World} (most : Int) (hm : most ≤ 9223372036854775807) (h : Rd w g gb cap bs at_) : Calls Tryz.prog 73 #[.pointer (some ⟨g, 0, none⟩), .int .i64 most] w (CountRead w g gb cap bs at_ most) := by
  unfold CountRead resC
  by_cases h0 : most < 0
  · simp only [if_pos h0]
    have H := hide h
    clear h
    go_enter Tryz.func73, Tryz.ntmps73
    go_wp2
    go_ret2
    exact ⟨rfl, Only.refl _ _, H.out⟩
  · simp only [if_neg h0]
    have hn := rdnumber_any h
    have hu := resN_lt (bs.drop at_)
    have he := resN_err (bs.drop at_)
    unfold NumRead at hn
    generalize (resN (bs.drop at_)).1 = u at hn hu ⊢
    generalize (resN (bs.drop at_)).2.1 = er at hn he ⊢
    generalize (resN (bs.drop at_)).2.2 = k at hn ⊢
    rcases he with rfl | rfl
    · by_cases hb : most < (u : Int)
      · simp only [if_pos hb, if_true]
        have HN := hide hn
        clear hn h
        go_enter Tryz.func73, Tryz.ntmps73
        go_wp2_with fail
        refine HN.out.mono ?_
        rintro e w1 ⟨rfl, o1, h1⟩
        go_wp2_with fail
        go_ret2
        exact ⟨rfl, o1, h1⟩
      · simp only [if_neg hb, if_true]
        have HN := hide hn
        clear hn h
        go_enter Tryz.func73, Tryz.ntmps73
        go_wp2_with fail
        refine HN.out.mono ?_
        rintro e w1 ⟨rfl, o1, h1⟩
        go_wp2_with fail
        go_ret2
        exact ⟨rfl, o1, h1⟩
    · simp only [if_neg (by decide : ¬ (4 : Int) = 0)]
      have HN := hide hn
      clear hn h
      go_enter Tryz.func73, Tryz.ntmps73
      go_wp2_with fail
      refine HN.out.mono ?_
      rintro e w1 ⟨rfl, o1, h1⟩
      go_wp2_with fail
      go_ret2
      exact ⟨rfl, o1, h1⟩

/-- What reading bytes answers: the error, the bytes, how far the place moves. -/
def resB (most : Int) (l : List UInt8) : Int × List UInt8 × Nat :=
  if (resC most l).2.1 = 0 then (if ((l.length - (resC most l).2.2 : Nat) : Int) < (resC most l).1 then (4, [], 0) else (0, (l.drop (resC most l).2.2).take (resC most l).1.toNat, (resC most l).2.2 + (resC most l).1.toNat)) else ((resC most l).2.1, [], 0)
theorem resC_facts (most : Int) (l : List UInt8) : (resC most l).2.2 ≤ l.length ∧ 0 ≤ (resC most l).1 ∧ (0 ≤ most → (resC most l).1 ≤ most) ∧ ((resC most l).2.1 = 0 ∨ (resC most l).2.1 = 2 ∨ (resC most l).2.1 = 3 ∨ (resC most l).2.1 = 4) := by
  have h1 := resN_le l
  have h2 := resN_err l
  unfold resC
  by_cases h0 : most < 0
  · simp only [if_pos h0]
    exact ⟨Nat.zero_le _, Int.le_refl _, fun h => by omega, .inr (.inl trivial)⟩
  · simp only [if_neg h0]
    by_cases he : (resN l).2.1 = 0
    · simp only [if_pos he]
      by_cases hm : most < ((resN l).1 : Int)
      · simp only [if_pos hm]
        exact ⟨h1, Int.le_refl _, fun h => h, .inr (.inr (.inl trivial))⟩
      · simp only [if_neg hm]
        exact ⟨h1, by omega, fun h => by omega, .inl trivial⟩
    · simp only [if_neg he]
      exact ⟨h1, Int.le_refl _, fun h => h, by omega⟩

/-- The reader's bytes, told. -/
def BytesRead (w : World) (g gb cap : Nat) (bs : List UInt8) (at_ : Nat) (er : Int) (ds : List UInt8) (k : Nat) (e : Ending) (w' : World) : Prop :=
  Only [g] w w' ∧ Rd w' g gb cap bs (at_ + k) ∧ ∃ (A : Option Addr) (c : Nat), e = .returned (.tuple #[.slice A ds.length c, .int .i64 er]) ∧ w'.ownsRow w.heap.size 5 1 (.slice A ds.length c) ds.length (U8s ds)

end Go.Proofs.YtmaljajdmgkakaaGreatDoor
