/- Walks over wire's law: spoil, step. No condition but at most 1048576 bytes. -/
import Derived.Test.YtdaeaepfbnlaeaaWi13
import Derived.BigRegion
namespace Go.Proofs.Ytdaeaepfbnlaeaa
open Go.RowKit
set_option linter.unusedVariables false
set_option linter.all false
set_option maxRecDepth 20000
attribute [local go_sem ↓] app_hide

set_option maxHeartbeats 1000000 in
theorem spoil_any (B : Nat) (A : Option Addr) (n c : Nat) (xs : List Value) (w : World) (hrow : w.ownsRow B 5 1 (.slice A n c) n xs) (hn : n ≤ 140737488351300) (hB : B ≤ w.heap.size) :
    Calls Try.prog 17 #[.slice A n c] w fun e w' => e = .returned (.tuple #[]) ∧ Only (blkOf A) w w' := by
  obtain ⟨i0, hi, hz0, hz1, hz2⟩ := info_parts byte_info
  have HR := hide hrow
  clear hrow
  go_enter Try.func17, Try.ntmps17
  go_wp2_with fail
  go_loopw [2] (fun vi wr => ∃ (k : Nat) (ys : List Value), vi = .int .i64 (k : Int) ∧ k ≤ n ∧ Only (blkOf A) w wr ∧ Hid (wr.ownsRow B 5 1 (.slice A n c) n ys)) (fun vi _ => n - (intOf vi).toNat)
  case atStart => exact ⟨0, xs, rfl, Nat.zero_le _, Only.refl _ _, HR⟩
  case round =>
    obtain ⟨k, ys, rfl, hk, hO, hR⟩ := hrel
    by_cases hlt : k < n
    · have i0' : (0 : Int) ≤ (k : Int) := by omega
      have i1 : (k : Int) < (n : Int) := by omega
      obtain ⟨g, rfl, hc, hf⟩ := own_cell hR.out (by omega)
      obtain ⟨cur, hcur, hcl, htk, hnc, hcm, hge⟩ := own_block hR.out
      have hfz := hf k
      obtain ⟨old, hold⟩ : ∃ old, wr.cell? ⟨g, k, none⟩ = some old := ⟨_, by rw [hcur.cell, List.getElem?_toArray, List.getElem?_eq_getElem (by omega)]⟩
      have hb := hcur.set_ k (.int .u8 90)
      rw [List.setIfInBounds_toArray] at hb
      have hrow2 := own_of_block (base := B) (n := n) (cap := c) hb (by rw [List.length_set]; exact hcl) hnc hcm hge
      have HB := hide hrow2
      clear hc hf hcur hcl htk hb hrow2
      go_wp2_with fail
      go_roundw
      case rel => exact ⟨k + 1, _, by go_num, by omega, hO.setCell (.inl (by simp [blkOf])) _, HB⟩
      case measure => simp [intOf]; omega
    · have i1 : ¬ (k : Int) < (n : Int) := by omega
      clear HR
      go_wp2_with fail
      go_loopw [0, 3] (fun vb vi wy => ∃ (j : Nat) (A2 : Option Addr) (c2 : Nat) (zs : List Value), vb = .slice A2 (n + j) c2 ∧ vi = .int .i64 (j : Int) ∧ j ≤ 9 ∧ Only (blkOf A) w wy ∧ (∀ x ∈ blkOf A2, x ∈ blkOf A ∨ w.heap.size ≤ x) ∧ Hid (wy.ownsRow B 5 1 (.slice A2 (n + j) c2) (n + j) zs)) (fun _ vi _ => 9 - (intOf vi).toNat)
      case atStart => exact ⟨0, A, c, ys, rfl, rfl, by omega, hO, fun x hx => .inl hx, hR⟩
      case round =>
        clear hO hR
        obtain ⟨j, A2, c2, zs, rfl, rfl, hj, hO, hx, hR⟩ := hrel
        by_cases hj9 : j < 9
        · have j1 : (j : Int) < 9 := by omega
          obtain ⟨g', cap', w2, hrun, h2, o2, hgg⟩ := append_at (P := Try.prog) (wr.alloc (.cells #[.int .u8 91] 5)) B 23 23 5 i0 (.int .u8 0) 1 1 Try.underlying23 hi hz0 hz1 hz2 rfl (by omega) A2 (n + j) c2 zs (hR.out.alloc _)
            ⟨wr.heap.size, 0, none⟩ 1 1 [.int .u8 91] rfl (fun j u hj => by
              have := (Blk.new wr 5 #[.int .u8 91]).cell j
              rw [add_mk, Nat.zero_add, this, List.getElem?_toArray]
              exact hj) (by simp [Value.oneCell']) (.inl (by omega)) (by unfold maxLen; omega) (by omega) (by have := hO.size; simp; omega)
          rw [app_hide] at hrun
          have hsz := hO.size
          have hO2 : Only (blkOf A) w w2 := (hO.alloc _).trans o2 hx
          have hx2 : ∀ x ∈ blkOf (some (⟨g', 0, none⟩ : Addr)), x ∈ blkOf A ∨ w.heap.size ≤ x := fun x hm => by
            simp only [blkOf, List.mem_singleton] at hm
            subst hm
            rcases hgg with h | h
            · exact hx _ h
            · right; rw [h]; simp; omega
          have H2 := hide h2
          clear h2 hgg o2
          go_wp2_with fail
          go_roundw
          case rel => exact ⟨j + 1, some ⟨g', 0, none⟩, cap', _, rfl, by go_num, by omega, hO2, hx2, H2⟩
          case measure => simp [intOf]; omega
        · have j1 : decide ((j : Int) < 9) = false := by simp; omega
          go_wp2_with fail
          go_end0
          exact ⟨rfl, hO⟩

/-- A reader and the document's, at one place of the same bytes. -/
structure PP (w : World) (g gb cap h : Nat) (A : Option Addr) (c : Nat) (bs : List UInt8) (at_ : Nat) : Prop where
  rd : Rd w g gb cap bs at_
  rr : RRd w h A c bs at_
  n1 : g ≠ h
  n2 : gb ≠ h
  n3 : 0 < bs.length → ∀ ad, A = some ad → ad.block ≠ g
  sm : bs.length ≤ 1048576
theorem PP.only0 {w w' : World} {g gb cap h : Nat} {A : Option Addr} {c : Nat} {bs : List UInt8} {at_ : Nat} (p : PP w g gb cap h A c bs at_) (ho : Only [] w w') : PP w' g gb cap h A c bs at_ :=
  ⟨p.rd.only0 ho, p.rr.only0 ho, p.n1, p.n2, p.n3, p.sm⟩
theorem PP.join {w1 w2 : World} {g gb cap h : Nat} {A : Option Addr} {c : Nat} {bs : List UInt8} {at_ at2 : Nat} {w : World} (p : PP w g gb cap h A c bs at_) (h1 : Rd w1 g gb cap bs at2) (o2 : Only [h] w1 w2) (h2 : RRd w2 h A c bs at2) : PP w2 g gb cap h A c bs at2 :=
  ⟨h1.only o2 (by simpa using p.n1) (by simpa using p.n2), h2, p.n1, p.n2, p.n3, p.sm⟩
theorem PP.second {w w1 : World} {g gb cap h : Nat} {A : Option Addr} {c : Nat} {bs : List UInt8} {at_ : Nat} (p : PP w g gb cap h A c bs at_) (o1 : Only [g] w w1) : RRd w1 h A c bs at_ :=
  p.rr.only o1 (by simpa using p.n1.symm) (fun hp ad had => by simpa using p.n3 hp ad had)
def Stepped (w : World) (g gb cap h : Nat) (A : Option Addr) (c : Nat) (bs : List UInt8) (e : Ending) (w' : World) : Prop := e = .returned (.bool true) ∧ Only [g, h] w w' ∧ ∃ at', PP w' g gb cap h A c bs at'
section
variable {w : World} {g gb cap h : Nat} {A : Option Addr} {c : Nat} {bs : List UInt8} {at_ : Nat}

set_option maxHeartbeats 1000000 in
theorem step1 (most : Int) (p : PP w g gb cap h A c bs at_) : Calls Try.prog 31 #[.pointer (some ⟨g, 0, none⟩), .pointer (some ⟨h, 0, none⟩), .agg #[.int .i64 1, .int .i64 most]] w (Stepped w g gb cap h A c bs) := by
  have P := hide p
  have o0 := (Only.refl [g, h] w).alloc (.cells #[.int .i64 1, .int .i64 most] 64)
  have p1 := hide (p.only0 ((Only.refl [] w).alloc (.cells #[.int .i64 1, .int .i64 most] 64)))
  clear p
  go_enter Try.func31, Try.ntmps31
  go_wp2_with fail
  have hn := rdnumber_any p1.out.rd
  unfold NumRead at hn
  obtain ⟨q, hq⟩ : ∃ q, Hid (resN (bs.drop at_) = q) := ⟨_, hide rfl⟩
  rw [hq.out] at hn
  obtain ⟨x1, x2, x3⟩ := q
  have HN := hide hn
  clear hn
  refine HN.out.mono ?_
  rintro e w1 ⟨rfl, o1, hR1⟩
  have hRR := p1.out.second o1
  have hn := rrdnumber_any hRR
  unfold RNumRead at hn
  rw [hq.out] at hn
  have HN2 := hide hn
  clear hn
  go_wp2_with fail
  refine HN2.out.mono ?_
  rintro e w2 ⟨rfl, o2, hR2⟩
  have hP2 := p1.out.join hR1 o2 hR2
  have hO := (o0.trans o1 (by simp)).trans o2 (by simp)
  clear hR1 hR2 hRR o1 o2
  go_wp2_with (go_at_call 24; refine (num_any _ _).mono ?_; rintro e w' ⟨rfl, rfl⟩)
  go_ret
  exact ⟨rfl, hO, _, hP2⟩

set_option maxHeartbeats 1000000 in
theorem step2 (most : Int) (p : PP w g gb cap h A c bs at_) : Calls Try.prog 31 #[.pointer (some ⟨g, 0, none⟩), .pointer (some ⟨h, 0, none⟩), .agg #[.int .i64 2, .int .i64 most]] w (Stepped w g gb cap h A c bs) := by
  have P := hide p
  have o0 := (Only.refl [g, h] w).alloc (.cells #[.int .i64 2, .int .i64 most] 64)
  have p1 := hide (p.only0 ((Only.refl [] w).alloc (.cells #[.int .i64 2, .int .i64 most] 64)))
  clear p
  go_enter Try.func31, Try.ntmps31
  go_wp2_with fail
  have hn := rdsigned_any p1.out.rd
  unfold SigRead at hn
  obtain ⟨q, hq⟩ : ∃ q, Hid (resN (bs.drop at_) = q) := ⟨_, hide rfl⟩
  rw [hq.out] at hn
  obtain ⟨x1, x2, x3⟩ := q
  have HN := hide hn
  clear hn
  refine HN.out.mono ?_
  rintro e w1 ⟨rfl, o1, hR1⟩
  have hRR := p1.out.second o1
  have hn := rrdsigned_any hRR
  unfold RSigRead at hn
  rw [hq.out] at hn
  have HN2 := hide hn
  clear hn
  go_wp2_with fail
  refine HN2.out.mono ?_
  rintro e w2 ⟨rfl, o2, hR2⟩
  have hP2 := p1.out.join hR1 o2 hR2
  have hO := (o0.trans o1 (by simp)).trans o2 (by simp)
  clear hR1 hR2 hRR o1 o2
  go_wp2_with (go_at_call 24; refine (num_any _ _).mono ?_; rintro e w' ⟨rfl, rfl⟩)
  go_ret
  exact ⟨rfl, hO, _, hP2⟩

set_option maxHeartbeats 1000000 in
theorem step3 (most : Int) (p : PP w g gb cap h A c bs at_) : Calls Try.prog 31 #[.pointer (some ⟨g, 0, none⟩), .pointer (some ⟨h, 0, none⟩), .agg #[.int .i64 3, .int .i64 most]] w (Stepped w g gb cap h A c bs) := by
  have P := hide p
  have o0 := (Only.refl [g, h] w).alloc (.cells #[.int .i64 3, .int .i64 most] 64)
  have p1 := hide (p.only0 ((Only.refl [] w).alloc (.cells #[.int .i64 3, .int .i64 most] 64)))
  clear p
  go_enter Try.func31, Try.ntmps31
  go_wp2_with fail
  have hn := rdflag_any p1.out.rd
  unfold FlagRead at hn
  obtain ⟨q, hq⟩ : ∃ q, Hid (resF (bs.drop at_) = q) := ⟨_, hide rfl⟩
  rw [hq.out] at hn
  obtain ⟨x1, x2, x3⟩ := q
  have HN := hide hn
  clear hn
  refine HN.out.mono ?_
  rintro e w1 ⟨rfl, o1, hR1⟩
  have hRR := p1.out.second o1
  have hn := rrdflag_any hRR
  unfold RFlagRead at hn
  rw [hq.out] at hn
  have HN2 := hide hn
  clear hn
  go_wp2_with fail
  refine HN2.out.mono ?_
  rintro e w2 ⟨rfl, o2, hR2⟩
  have hP2 := p1.out.join hR1 o2 hR2
  have hO := (o0.trans o1 (by simp)).trans o2 (by simp)
  clear hR1 hR2 hRR o1 o2
  go_wp2_with (go_at_call 24; refine (num_any _ _).mono ?_; rintro e w' ⟨rfl, rfl⟩)
  go_ret
  exact ⟨rfl, hO, _, hP2⟩

theorem step_other (kd most : Int) (hk : kd < 1 ∨ 5 < kd) (p : PP w g gb cap h A c bs at_) : Calls Try.prog 31 #[.pointer (some ⟨g, 0, none⟩), .pointer (some ⟨h, 0, none⟩), .agg #[.int .i64 kd, .int .i64 most]] w (Stepped w g gb cap h A c bs) := by
  have e1 : (kd == 1) = false := by simp; omega
  have e2 : (kd == 2) = false := by simp; omega
  have e3 : (kd == 3) = false := by simp; omega
  have e4 : (kd == 4) = false := by simp; omega
  have e5 : (kd == 5) = false := by simp; omega
  have P := hide p
  clear p hk
  go_enter Try.func31, Try.ntmps31
  go_wp2_with fail
  go_ret
  exact ⟨rfl, (Only.refl _ _).alloc _, _, P.out.only0 ((Only.refl _ _).alloc _)⟩
end
end Go.Proofs.Ytdaeaepfbnlaeaa
