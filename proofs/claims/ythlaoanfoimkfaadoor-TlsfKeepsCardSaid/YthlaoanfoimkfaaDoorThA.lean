/- Tlsf: the heap in memory; list, lay, let, class, put. No condition but what each theorem says. -/
import Derived.Test.YthlaoanfoimkfaaDoorTfA
import Derived.Test.YthlaoanfoimkfaaDoorAr4
import Derived.Test.YthlaoanfoimkfaaDoorMaps
import Derived.BigRegion
import Derived.Deep.RegionHeld3
import Derived.Test.YthlaoanfoimkfaaDoorShelf
import Derived.Lib.ItoaNum
namespace Go.Proofs.YthlaoanfoimkfaaDoor
open Go.RowKit
set_option linter.unusedVariables false
set_option linter.all false
set_option maxRecDepth 100000

theorem wd_word (bs : List UInt8) {off : Nat} (h4 : off % 4 = 0) : word bs off = wd bs off := by
  unfold wd byt word
  rw [if_pos h4]
  simp only [part]
/-! ## Bits of words -/
theorem wraps_i64 (n : Int) (h₀ : 0 ≤ n) (h₁ : n < 2 ^ 63) : IntKind.i64.wrap n = n := by rw [IntKind.wrap_i64]; omega
theorem i64_and (a b : Nat) (ha : a < 2 ^ 63) (hb : b < 2 ^ 63) : bits .and .i64 a b = ((a &&& b : Nat) : Int) := (bits_nat .i64 63 (by decide) wraps_i64 a b ha hb).1
theorem i64_or (a b : Nat) (ha : a < 2 ^ 63) (hb : b < 2 ^ 63) : bits .or .i64 a b = ((a ||| b : Nat) : Int) := (bits_nat .i64 63 (by decide) wraps_i64 a b ha hb).2
theorem i64_andNot (a b : Nat) (ha : a < 2 ^ 63) (hb : b < 2 ^ 63) : bits .andNot .i64 a b = ((a ^^^ (a &&& b) : Nat) : Int) := by
  have h1 : a % 2 ^ 64 = a := Nat.mod_eq_of_lt (by omega)
  have h2 : b % 2 ^ 64 = b := Nat.mod_eq_of_lt (by omega)
  have h3 : a &&& (2 ^ 64 - 1 - b) = a ^^^ (a &&& b) := by
    apply Nat.eq_of_testBit_eq
    intro i
    rw [Nat.testBit_and, show 2 ^ 64 - 1 - b = 2 ^ 64 - (b + 1) by omega, Nat.testBit_two_pow_sub_succ (by omega), Nat.testBit_xor, Nat.testBit_and]
    by_cases hi : i < 64
    · simp [hi]
      cases a.testBit i <;> cases b.testBit i <;> rfl
    · have : a.testBit i = false := Nat.testBit_lt_two_pow (Nat.lt_of_lt_of_le (show a < 2 ^ 64 by omega) (Nat.pow_le_pow_right (by omega) (by omega)))
      simp [this]
  have h1' : a % 2 ^ IntKind.i64.bits = a := h1
  have h2' : b % 2 ^ IntKind.i64.bits = b := h2
  simp only [bits, BitVec.ofInt_natCast, BitVec.toNat_and, BitVec.toNat_not, BitVec.toNat_ofNat, h1', h2']
  show IntKind.i64.wrap ((a &&& (2 ^ 64 - 1 - b) : Nat) : Int) = _
  rw [h3]
  have hle : a ^^^ (a &&& b) ≤ a := by rw [← h3]; exact Nat.and_le_left
  have hlt : ((a ^^^ (a &&& b) : Nat) : Int) < 2 ^ 63 := by omega
  exact wraps_i64 _ (Int.natCast_nonneg _) hlt
theorem even_andNot (z k : Nat) (hk : k < 2) (hz : z % 2 = 0) : (z + k) ^^^ ((z + k) &&& 1) = z := by
  rw [show (1 : Nat) = 2 ^ 1 - 1 from rfl, Nat.and_two_pow_sub_one_eq_mod]
  have : (z + k) % 2 ^ 1 = k := by omega
  rw [this]
  apply Nat.eq_of_testBit_eq
  intro i
  rw [Nat.testBit_xor]
  cases i with
  | zero => 
    simp only [Nat.testBit_zero]
    rcases (by omega : k = 0 ∨ k = 1) with rfl | rfl
    · simp
    · have : (z + 1) % 2 = 1 := by omega
      simp [this, hz]
  | succ i =>
    rw [Nat.testBit_succ, Nat.testBit_succ, Nat.testBit_succ, show (z + k) / 2 = z / 2 by omega, show k / 2 = 0 by omega]
    simp
theorem even_and (z k : Nat) (hk : k < 2) (hz : z % 2 = 0) : (z + k) &&& 1 = k := by
  rw [show (1 : Nat) = 2 ^ 1 - 1 from rfl, Nat.and_two_pow_sub_one_eq_mod]; omega
/-- A heap's header and its arena, whose words are m. -/
structure Me (w : World) (h g gb cap mb N : Nat) (m : Nat → Nat) : Prop where
  hdr : Blk w h 76 #[.pointer (some ⟨g, 0, none⟩), .map (some mb)]
  mem : ∃ bs c, Ar w g gb cap bs c ∧ bs.length = N ∧ wd bs = m
section
variable {w w' : World} {h g gb cap mb N : Nat} {m : Nat → Nat} {S : List Nat}
theorem Me.ne (H : Me w h g gb cap mb N m) : h ≠ g ∧ h ≠ gb := by
  obtain ⟨bs, c, hA, _, _⟩ := H.mem
  refine ⟨fun e => ?_, fun e => ?_⟩
  · subst e
    have := H.hdr.symm.trans hA.hdr
    simp at this
  · exact own_blk_ne hA.row H.hdr (by decide) (by simp [Value.ownBlock, e])
theorem Me.only (H : Me w h g gb cap mb N m) (ho : Only S w w') (h1 : h ∉ S) (h2 : g ∉ S) (h3 : gb ∉ S) : Me w' h g gb cap mb N m := by
  obtain ⟨bs, c, hA, e1, e2⟩ := H.mem
  exact ⟨H.hdr.only ho h1, bs, c, hA.only ho h2 h3, e1, e2⟩
theorem Me.only0 (H : Me w h g gb cap mb N m) (ho : Only [] w w') : Me w' h g gb cap mb N m := H.only ho (by simp) (by simp) (by simp)
theorem Me.lt (H : Me w h g gb cap mb N m) (p : Nat) : m p < 4294967296 := by
  obtain ⟨bs, c, hA, e1, e2⟩ := H.mem
  rw [← e2]; exact wd_lt bs p
theorem get_any (H : Me w h g gb cap mb N m) {p : Nat} (hp : p < N) (h4 : p % 4 = 0) :
    Calls Tryd.prog 57 #[.pointer (some ⟨h, 0, none⟩), .int .i64 p] w fun e w' => e = .returned (.int .i64 (m p)) ∧ Only [g] w w' ∧ Me w' h g gb cap mb N m := by
  have hb := H.lt p
  obtain ⟨bs, c, hA, e1, e2⟩ := H.mem
  have hne := H.ne
  have hH := H.hdr
  have k0 : w.cell? ⟨h, 0, none⟩ = some (.pointer (some ⟨g, 0, none⟩)) := by simpa using H.hdr.cell 0
  have hG := get_good g gb cap bs c p w hA (by omega) h4
  rw [wd_word bs h4, e2] at hG
  have E2 := Lib.hid e2
  have hG := Lib.hid hG
  clear H hA e2 h4
  go_enter Tryd.func57, Tryd.ntmps57
  go_wp2_with (go_at_call 38; refine hG.out.mono ?_; rintro e w' ⟨rfl, o1, c', hA'⟩)
  go_ret
  have : wrap64 (m p) = m p := by unfold wrap64; omega
  refine ⟨by simp [this], o1, hH.only o1 (by simpa using hne.1), bs, c', hA', e1, E2.out⟩
theorem lays_splice (bs ds : List UInt8) (x : Nat) : lays bs x ds = splice bs x ds := by simp [lays, splice]
theorem set_any (H : Me w h g gb cap mb N m) {p v : Nat} (hp : p < N) (h4 : p % 4 = 0) (hv : v < 4294967296) :
    Calls Tryd.prog 44 #[.pointer (some ⟨h, 0, none⟩), .int .i64 p, .int .i64 v] w fun e w' => e = .returned (.tuple #[]) ∧ Only [g, gb] w w' ∧ Me w' h g gb cap mb N (upd m p v) := by
  obtain ⟨bs, c, hA, e1, e2⟩ := H.mem
  have hne := H.ne
  have hH := H.hdr
  have k0 : w.cell? ⟨h, 0, none⟩ = some (.pointer (some ⟨g, 0, none⟩)) := by simpa using H.hdr.cell 0
  have hG := set_good g gb cap bs c p v w hA (by omega) h4 hv
  have hd := hA.d8
  have hw : wd (splice bs p (four v)) = upd m p v := by
    rw [← e2, ← wd_set (by omega) h4 hv, lays_splice]; rfl
  have hl : (splice bs p (four v)).length = N := by rw [length_splice _ _ _ (by simp [four]; omega)]; exact e1
  have E2 := Lib.hid hw
  have hG := Lib.hid hG
  have HL := Lib.hid hl
  clear H hA e2 h4 hw hl hd
  go_enter Tryd.func44, Tryd.ntmps44
  go_wp2_with (go_at_call 70; refine hG.out.mono ?_; rintro e w' ⟨rfl, o1, c', hA'⟩)
  go_end0
  refine ⟨rfl, o1, hH.only o1 (by simpa using hne), _, c', hA', HL.out, E2.out⟩
theorem there_any (H : Me w h g gb cap mb N m) : Calls Tryd.prog 56 #[.pointer (some ⟨h, 0, none⟩)] w fun e w' => e = .returned (.bool true) ∧ w = w' := by
  have k0 : w.cell? ⟨h, 0, none⟩ = some (.pointer (some ⟨g, 0, none⟩)) := by simpa using H.hdr.cell 0
  go_enter Tryd.func56, Tryd.ntmps56
  go_wp2
  go_ret
  exact ⟨rfl, rfl⟩
theorem len_any (H : Me w h g gb cap mb N m) : Calls Tryd.prog 42 #[.pointer (some ⟨g, 0, none⟩)] w fun e w' => e = .returned (.int .i64 N) ∧ w = w' := by
  obtain ⟨bs, c, hA, e1, e2⟩ := H.mem
  have := size_any g gb cap bs c w hA
  rw [e1] at this
  exact this
theorem size_any' (H : Me w h g gb cap mb N m) {p z k : Nat} (hp : p < N) (h4 : p % 4 = 0) (hk : k < 2) (hz : z % 2 = 0) (hm : m p = z + k) :
    Calls Tryd.prog 51 #[.pointer (some ⟨h, 0, none⟩), .int .i64 p] w fun e w' => e = .returned (.tuple #[.int .i64 z, .bool (k == 1)]) ∧ Only [g] w w' ∧ Me w' h g gb cap mb N m := by
  have hb := H.lt p
  have hG := get_any H hp h4
  rw [hm] at hG hb
  have hG := Lib.hid hG
  clear H hm
  go_enter Tryd.func51, Tryd.ntmps51
  go_wp2_with (go_at_call 57; refine hG.out.mono ?_; rintro e w' ⟨rfl, o1, H1⟩)
  go_ret2
  refine ⟨?_, o1, H1⟩
  have q1 := i64_andNot (z + k) 1 (by omega) (by omega)
  have q2 := i64_and (z + k) 1 (by omega) (by omega)
  rw [even_andNot z k hk hz] at q1
  rw [even_and z k hk hz] at q2
  push_cast at q1 q2
  have q3 : (((k : Nat) : Int) == 1) = (k == 1) := by rcases (by omega : k = 0 ∨ k = 1) with rfl | rfl <;> rfl
  simp [q1, q2, q3]
end
end Go.Proofs.YthlaoanfoimkfaaDoor
namespace Go.Proofs.YthlaoanfoimkfaaDoor
open Go.RowKit
set_option linter.unusedVariables false
set_option linter.all false
set_option maxRecDepth 100000
section
variable {w w' : World} {h g gb cap mb N : Nat} {m : Nat → Nat} {S : List Nat}
/-- The two boxes that list's closures hold. -/
structure Bx (w : World) (x y h c : Nat) : Prop where
  a : Blk w x 23 #[.pointer (some ⟨h, 0, none⟩)]
  b : Blk w y 3 #[.int .i64 c]
theorem Bx.only {x y c : Nat} (H : Bx w x y h c) (o : Only S w w') (h1 : x ∉ S) (h2 : y ∉ S) : Bx w' x y h c := ⟨H.a.only o h1, H.b.only o h2⟩
theorem list_any (h c : Nat) (w : World) :
    Calls Tryd.prog 59 #[.pointer (some ⟨h, 0, none⟩), .int .i64 c] w fun e w' => ∃ x y, e = .returned (.tuple #[.func (.func 82) #[] #[.pointer (some ⟨x, 0, none⟩), .pointer (some ⟨y, 0, none⟩)], .func (.func 83) #[] #[.pointer (some ⟨x, 0, none⟩), .pointer (some ⟨y, 0, none⟩)]]) ∧
      Only [] w w' ∧ Bx w' x y h c ∧ w.heap.size ≤ x ∧ w.heap.size ≤ y := by
  go_enter Tryd.func59, Tryd.ntmps59
  go_wp2
  go_ret2
  refine ⟨w.heap.size, w.heap.size + 1, by simp, ((Only.refl [] w).alloc _).alloc _, ⟨?_, ?_⟩, by omega, by omega⟩
  · exact (Blk.new w 23 #[.pointer (some ⟨h, 0, none⟩)]).alloc _
  · simpa using Blk.new (w.alloc _) 3 #[.int .i64 c]
theorem first_any (H : Me w h g gb cap mb N m) {x y c : Nat} (hB : Bx w x y h c) (hc : c < 26) (hN : 256 ≤ N) :
    Calls Tryd.prog 82 #[.pointer (some ⟨x, 0, none⟩), .pointer (some ⟨y, 0, none⟩)] w fun e w' => e = .returned (.int .i64 (m (4 + 4 * c))) ∧ Only [g] w w' ∧ Me w' h g gb cap mb N m := by
  have ka : w.cell? ⟨x, 0, none⟩ = some (.pointer (some ⟨h, 0, none⟩)) := by simpa using hB.a.cell 0
  have kb : w.cell? ⟨y, 0, none⟩ = some (.int .i64 c) := by simpa using hB.b.cell 0
  have hG := get_any H (p := 4 + 4 * c) (by omega) (by omega)
  rw [show (((4 + 4 * c : Nat) : Nat) : Int) = 4 + 4 * (c : Int) by omega] at hG
  have hG := Lib.hid hG
  clear H
  go_enter Tryd.func82, Tryd.ntmps82
  go_wp2_with (go_at_call 57; refine hG.out.mono ?_; rintro e w' ⟨rfl, o1, H1⟩)
  go_ret
  exact ⟨by simp, o1, H1⟩
theorem lay_any (H : Me w h g gb cap mb N m) {p z k : Nat} (hk : k < 2) (hN : N ≤ 65536) (hp : p % 8 = 0) (hz : z % 8 = 0) (hz2 : 16 ≤ z) (he : p + z ≤ N) (h8 : N % 8 = 0) :
    Calls Tryd.prog 76 #[.pointer (some ⟨h, 0, none⟩), .int .i64 p, .int .i64 z, .bool (k == 1)] w fun e w' => e = .returned (.tuple #[]) ∧ Only [g, gb] w w' ∧ Me w' h g gb cap mb N (layW N m p z k) := by
  have hne := H.ne
  have k0 : w.cell? ⟨h, 0, none⟩ = some (.pointer (some ⟨g, 0, none⟩)) := by simpa using H.hdr.cell 0
  have q : bits .or .i64 (z : Int) 1 = ((z + 1 : Nat) : Int) := by
    have := i64_or z 1 (by omega) (by omega)
    rw [show (((1 : Nat)) : Int) = 1 from rfl] at this
    rw [this, show z ||| 1 = z + 1 from ?_]
    have e : z = 2 ^ 1 * (z / 2) := by omega
    conv => lhs; rw [e]
    rw [← Nat.two_pow_add_eq_or_of_lt (by omega) (z / 2), ← e]
  by_cases hl : p + z < N
  · have hW : upd (upd m p (z + k)) (p + z + 4) z = layW N m p z k := by
      funext x
      unfold upd layW
      by_cases h1 : x = p + z + 4
      · rw [if_pos h1, if_pos ⟨hl, h1⟩]
      · rw [if_neg h1, if_neg (show ¬ (p + z < N ∧ x = p + z + 4) from fun hh => h1 hh.2)]
    have hS2 : ∀ w1, Me w1 h g gb cap mb N (upd m p (z + k)) → Calls Tryd.prog 44 #[.pointer (some ⟨h, 0, none⟩), .int .i64 ((p : Int) + (z : Int) + 4), .int .i64 z] w1 fun e w' => e = .returned (.tuple #[]) ∧ Only [g, gb] w1 w' ∧ Me w' h g gb cap mb N (layW N m p z k) := fun w1 H1 => by
      have := set_any H1 (p := p + z + 4) (v := z) (by omega) (by omega) (by omega)
      rw [hW] at this
      push_cast at this
      exact this
    have hlt : (p : Int) + (z : Int) < (N : Int) := by omega
    have HS2 := Lib.hid hS2
    rcases (by omega : k = 0 ∨ k = 1) with rfl | rfl
    · have HS : Hid (Calls Tryd.prog 44 #[.pointer (some ⟨h, 0, none⟩), .int .i64 p, .int .i64 z] w fun e w' => e = .returned (.tuple #[]) ∧ Only [g, gb] w w' ∧ Me w' h g gb cap mb N (upd m p (z + 0))) := Lib.hid (set_any H (p := p) (v := z) (by omega) (by omega) (by omega))
      clear H hS2 hW hne hp hz h8 q
      go_enter Tryd.func76, Tryd.ntmps76
      go_wp2_with (first
        | (go_at_call 44; (with_reducible refine (HS.out).mono ?_); rintro e w1 ⟨rfl, o1, H1⟩; have k0 : w1.cell? ⟨h, 0, none⟩ = some (.pointer (some ⟨g, 0, none⟩)) := (by simpa using H1.hdr.cell 0))
        | (go_at_call 42; refine (len_any H1).mono ?_; rintro e w2 ⟨rfl, rfl⟩)
        | (go_at_call 44; (with_reducible refine (HS2.out _ H1).mono ?_); rintro e w3 ⟨rfl, o3, H3⟩))
      go_end0
      exact ⟨rfl, o1.trans o3 (by simp), H3⟩
    · have HS : Hid (Calls Tryd.prog 44 #[.pointer (some ⟨h, 0, none⟩), .int .i64 p, .int .i64 (bits .or .i64 (z : Int) 1)] w fun e w' => e = .returned (.tuple #[]) ∧ Only [g, gb] w w' ∧ Me w' h g gb cap mb N (upd m p (z + 1))) := Lib.hid (by rw [q]; exact set_any H (p := p) (v := z + 1) (by omega) (by omega) (by omega))
      clear H hS2 hW hne hp hz h8 q
      go_enter Tryd.func76, Tryd.ntmps76
      go_wp2_with (first
        | (go_at_call 44; (with_reducible refine (HS.out).mono ?_); rintro e w1 ⟨rfl, o1, H1⟩; have k0 : w1.cell? ⟨h, 0, none⟩ = some (.pointer (some ⟨g, 0, none⟩)) := (by simpa using H1.hdr.cell 0))
        | (go_at_call 42; refine (len_any H1).mono ?_; rintro e w2 ⟨rfl, rfl⟩)
        | (go_at_call 44; (with_reducible refine (HS2.out _ H1).mono ?_); rintro e w3 ⟨rfl, o3, H3⟩))
      go_end0
      exact ⟨rfl, o1.trans o3 (by simp), H3⟩
  · have hW : ∀ v, upd m p v = (fun x => if x = p then v else m x) := fun v => rfl
    have hL : upd m p (z + k) = layW N m p z k := by
      funext x
      unfold upd layW
      rw [if_neg (show ¬ (p + z < N ∧ x = p + z + 4) from fun hh => hl hh.1)]
    have hlt : ¬ (p : Int) + (z : Int) < (N : Int) := by omega
    rcases (by omega : k = 0 ∨ k = 1) with rfl | rfl
    · have HS : Hid (Calls Tryd.prog 44 #[.pointer (some ⟨h, 0, none⟩), .int .i64 p, .int .i64 z] w fun e w' => e = .returned (.tuple #[]) ∧ Only [g, gb] w w' ∧ Me w' h g gb cap mb N (layW N m p z 0)) := Lib.hid (by rw [← hL]; exact set_any H (p := p) (v := z) (by omega) (by omega) (by omega))
      clear H hW hL hne hp hz h8 q
      go_enter Tryd.func76, Tryd.ntmps76
      go_wp2_with (first
        | (go_at_call 44; (with_reducible refine (HS.out).mono ?_); rintro e w1 ⟨rfl, o1, H1⟩; have k0 : w1.cell? ⟨h, 0, none⟩ = some (.pointer (some ⟨g, 0, none⟩)) := (by simpa using H1.hdr.cell 0))
        | (go_at_call 42; refine (len_any H1).mono ?_; rintro e w2 ⟨rfl, rfl⟩))
      go_end0
      exact ⟨rfl, o1, H1⟩
    · have HS : Hid (Calls Tryd.prog 44 #[.pointer (some ⟨h, 0, none⟩), .int .i64 p, .int .i64 (bits .or .i64 (z : Int) 1)] w fun e w' => e = .returned (.tuple #[]) ∧ Only [g, gb] w w' ∧ Me w' h g gb cap mb N (layW N m p z 1)) := Lib.hid (by rw [← hL, q]; exact set_any H (p := p) (v := z + 1) (by omega) (by omega) (by omega))
      clear H hW hL hne hp hz h8 q
      go_enter Tryd.func76, Tryd.ntmps76
      go_wp2_with (first
        | (go_at_call 44; (with_reducible refine (HS.out).mono ?_); rintro e w1 ⟨rfl, o1, H1⟩; have k0 : w1.cell? ⟨h, 0, none⟩ = some (.pointer (some ⟨g, 0, none⟩)) := (by simpa using H1.hdr.cell 0))
        | (go_at_call 42; refine (len_any H1).mono ?_; rintro e w2 ⟨rfl, rfl⟩))
      go_end0
      exact ⟨rfl, o1, H1⟩
end
end Go.Proofs.YthlaoanfoimkfaaDoor
namespace Go.Proofs.YthlaoanfoimkfaaDoor
open Go.RowKit
set_option linter.unusedVariables false
set_option linter.all false
set_option maxRecDepth 100000
section
variable {w w' : World} {h g gb cap mb N : Nat} {m : Nat → Nat} {S : List Nat}
set_option maxHeartbeats 2000000 in
theorem let_zero (H : Me w h g gb cap mb N m) {x y c : Nat} (hB : Bx w x y h c) (hc : c < 26) (hN : 256 ≤ N) (hx : x ≠ g ∧ x ≠ gb) (hy : y ≠ g ∧ y ≠ gb) (hm0 : m 0 < 67108864) :
    Calls Tryd.prog 83 #[.int .i64 0, .pointer (some ⟨x, 0, none⟩), .pointer (some ⟨y, 0, none⟩)] w fun e w' => e = .returned (.tuple #[]) ∧ Only [g, gb] w w' ∧ Me w' h g gb cap mb N (letW m c 0) := by
  have ka : w.cell? ⟨x, 0, none⟩ = some (.pointer (some ⟨h, 0, none⟩)) := by simpa using hB.a.cell 0
  have kb : w.cell? ⟨y, 0, none⟩ = some (.int .i64 c) := by simpa using hB.b.cell 0
  have hS : Hid (Calls Tryd.prog 44 #[.pointer (some ⟨h, 0, none⟩), .int .i64 (4 + 4 * (c : Int)), .int .i64 0] w fun e w' => e = .returned (.tuple #[]) ∧ Only [g, gb] w w' ∧ Me w' h g gb cap mb N (upd m (4 + 4 * c) 0)) := Lib.hid (by
    have := set_any H (p := 4 + 4 * c) (v := 0) (by omega) (by omega) (by omega)
    push_cast at this; exact this)
  have hbit : bits .andNot .i64 ((upd m (4 + 4 * c) 0 0 : Nat) : Int) (IntKind.i64.wrap (2 ^ c)) = ((bitW (m 0) c false : Nat) : Int) := by
    have hp : 2 ^ c < 2 ^ 26 := Nat.pow_lt_pow_right (by omega) hc
    rw [upd_ne (by omega), show ((2 : Int) ^ c) = ((2 ^ c : Nat) : Int) by simp, wraps_i64 _ (Int.natCast_nonneg _) (by omega), i64_andNot _ _ (by omega) (by omega)]
    rfl
  have hbl : bitW (m 0) c false < 4294967296 := Nat.lt_of_lt_of_le (bitW_lt (n := 26) hm0 hc) (by decide)
  have HB := Lib.hid hB
  have hcl := hB.a.lt
  clear H hB
  go_enter Tryd.func83, Tryd.ntmps83
  go_wp2_with (first
    | (go_at_call 44; (with_reducible refine (hS.out).mono ?_); rintro e w1 ⟨rfl, o1, H1⟩; have B1 := HB.out.only o1 (by simp; exact hx) (by simp; exact hy); have ka : w1.cell? ⟨x, 0, none⟩ = some (.pointer (some ⟨h, 0, none⟩)) := (by simpa using B1.a.cell 0); have kb : w1.cell? ⟨y, 0, none⟩ = some (.int .i64 c) := (by simpa using B1.b.cell 0))
    | (go_at_call 57; refine (get_any H1 (p := 0) (by omega) (by omega)).mono ?_; rintro e w2 ⟨rfl, o2, H2⟩; have B2 := B1.only o2 (by simp; exact hx.1) (by simp; exact hy.1); have ka : w2.cell? ⟨x, 0, none⟩ = some (.pointer (some ⟨h, 0, none⟩)) := (by simpa using B2.a.cell 0); have kb : w2.cell? ⟨y, 0, none⟩ = some (.int .i64 c) := (by simpa using B2.b.cell 0)))
  go_region_held3 (fun W => W.cell? ⟨x, 0, none⟩ = some (.pointer (some ⟨h, 0, none⟩)) ∧ W.cell? ⟨y, 0, none⟩ = some (.int .i64 c)) (first | go_keep | exact ⟨ka2, kb2⟩)
    (first | (go_at_call 44; refine (set_any (H2.only0 ((Only.refl [] _).drew)) (p := 0) (v := bitW (m 0) c false) (by omega) (by omega) hbl).mono ?_; rintro e w3 ⟨rfl, o3, H3⟩; have B3 := (B2.only ((Only.refl [] _).drew) (by simp) (by simp)).only o3 (by simp; exact hx) (by simp; exact hy); have ka2 : w3.cell? ⟨x, 0, none⟩ = some (.pointer (some ⟨h, 0, none⟩)) := (by simpa using B3.a.cell 0); have kb2 : w3.cell? ⟨y, 0, none⟩ = some (.int .i64 c) := (by simpa using B3.b.cell 0)))
  go_wp2
  go_end0
  exact ⟨rfl, ((o1.trans o2 (by simp)).trans0 ((Only.refl [] _).drew)).trans o3 (by simp), H3⟩
set_option maxHeartbeats 2000000 in
theorem let_new (H : Me w h g gb cap mb N m) {x y c : Nat} (hB : Bx w x y h c) (hc : c < 26) (hN : 256 ≤ N) (hx : x ≠ g ∧ x ≠ gb) (hy : y ≠ g ∧ y ≠ gb) (hm0 : m 0 < 67108864) {a : Nat} (ha : 0 < a) (ha2 : a < 4294967296) (hbit0 : (m 0).testBit c = false) :
    Calls Tryd.prog 83 #[.int .i64 a, .pointer (some ⟨x, 0, none⟩), .pointer (some ⟨y, 0, none⟩)] w fun e w' => e = .returned (.tuple #[]) ∧ Only [g, gb] w w' ∧ Me w' h g gb cap mb N (letW m c a) := by
  have ka : w.cell? ⟨x, 0, none⟩ = some (.pointer (some ⟨h, 0, none⟩)) := by simpa using hB.a.cell 0
  have kb : w.cell? ⟨y, 0, none⟩ = some (.int .i64 c) := by simpa using hB.b.cell 0
  have hS : Hid (Calls Tryd.prog 44 #[.pointer (some ⟨h, 0, none⟩), .int .i64 (4 + 4 * (c : Int)), .int .i64 a] w fun e w' => e = .returned (.tuple #[]) ∧ Only [g, gb] w w' ∧ Me w' h g gb cap mb N (upd m (4 + 4 * c) a)) := Lib.hid (by
    have := set_any H (p := 4 + 4 * c) (v := a) (by omega) (by omega) (by omega)
    push_cast at this; exact this)
  have e0 : upd m (4 + 4 * c) a 0 = m 0 := upd_ne (by omega)
  have hfl : (bits .and .i64 (((upd m (4 + 4 * c) a 0 : Nat) : Int) / 2 ^ c) 1 == 0) = true := by
    have hd : m 0 / 2 ^ c < 2 ^ 63 := Nat.lt_of_le_of_lt (Nat.div_le_self _ _) (by omega)
    have h1 := i64_and (m 0 / 2 ^ c) 1 hd (by omega)
    rw [show (1 : Nat) = 2 ^ 1 - 1 from rfl, Nat.and_two_pow_sub_one_eq_mod] at h1
    have h2 : m 0 / 2 ^ c % 2 = 0 := by
      have := Nat.testBit_eq_decide_div_mod_eq (x := m 0) (i := c)
      rw [hbit0] at this
      have := of_decide_eq_false this.symm
      omega
    rw [e0]
    push_cast at h1
    have h3 : ((m 0 / 2 ^ c % 2 : Nat) : Int) = 0 := by rw [h2]; rfl
    push_cast at h3
    simp only [beq_iff_eq]
    exact h1.trans h3
  have ha0 : ((a : Int) == 0) = false := by simp; omega
  have hbit : bits .or .i64 ((upd m (4 + 4 * c) a 0 : Nat) : Int) (IntKind.i64.wrap (2 ^ c)) = ((bitW (m 0) c true : Nat) : Int) := by
    have hp : 2 ^ c < 2 ^ 26 := Nat.pow_lt_pow_right (by omega) hc
    rw [e0, show ((2 : Int) ^ c) = ((2 ^ c : Nat) : Int) by simp, wraps_i64 _ (Int.natCast_nonneg _) (by omega), i64_or _ _ (by omega) (by omega)]
    rfl
  have hbl : bitW (m 0) c true < 4294967296 := Nat.lt_of_lt_of_le (bitW_lt (n := 26) hm0 hc) (by decide)
  have HB := Lib.hid hB
  have hcl := hB.a.lt
  clear H hB e0 hbit0
  go_enter Tryd.func83, Tryd.ntmps83
  go_wp2_with (first
    | (go_at_call 44; (with_reducible refine (hS.out).mono ?_); rintro e w1 ⟨rfl, o1, H1⟩; have B1 := HB.out.only o1 (by simp; exact hx) (by simp; exact hy); have ka : w1.cell? ⟨x, 0, none⟩ = some (.pointer (some ⟨h, 0, none⟩)) := (by simpa using B1.a.cell 0); have kb : w1.cell? ⟨y, 0, none⟩ = some (.int .i64 c) := (by simpa using B1.b.cell 0))
    | (go_at_call 57; refine (get_any H1 (p := 0) (by omega) (by omega)).mono ?_; rintro e w2 ⟨rfl, o2, H2⟩; have B2 := B1.only o2 (by simp; exact hx.1) (by simp; exact hy.1); have ka : w2.cell? ⟨x, 0, none⟩ = some (.pointer (some ⟨h, 0, none⟩)) := (by simpa using B2.a.cell 0); have kb : w2.cell? ⟨y, 0, none⟩ = some (.int .i64 c) := (by simpa using B2.b.cell 0)))
  go_region_held3 (fun W => W.cell? ⟨x, 0, none⟩ = some (.pointer (some ⟨h, 0, none⟩)) ∧ W.cell? ⟨y, 0, none⟩ = some (.int .i64 c)) (first | go_keep | exact ⟨ka2, kb2⟩)
    (first | (go_at_call 44; refine (set_any (H2.only0 ((Only.refl [] _).drew)) (p := 0) (v := bitW (m 0) c true) (by omega) (by omega) hbl).mono ?_; rintro e w3 ⟨rfl, o3, H3⟩; have B3 := (B2.only ((Only.refl [] _).drew) (by simp) (by simp)).only o3 (by simp; exact hx) (by simp; exact hy); have ka2 : w3.cell? ⟨x, 0, none⟩ = some (.pointer (some ⟨h, 0, none⟩)) := (by simpa using B3.a.cell 0); have kb2 : w3.cell? ⟨y, 0, none⟩ = some (.int .i64 c) := (by simpa using B3.b.cell 0)))
  go_wp2
  go_end0
  have hz : decide (a ≠ 0) = true := by simp; omega
  refine ⟨rfl, ((o1.trans o2 (by simp)).trans0 ((Only.refl [] _).drew)).trans o3 (by simp), ?_⟩
  unfold letW
  rw [hz]
  exact H3
set_option maxHeartbeats 2000000 in
theorem let_old (H : Me w h g gb cap mb N m) {x y c : Nat} (hB : Bx w x y h c) (hc : c < 26) (hN : 256 ≤ N) (hx : x ≠ g ∧ x ≠ gb) (hy : y ≠ g ∧ y ≠ gb) (hm0 : m 0 < 67108864) {a : Nat} (ha : 0 < a) (ha2 : a < 4294967296) (hbit0 : (m 0).testBit c = true) :
    Calls Tryd.prog 83 #[.int .i64 a, .pointer (some ⟨x, 0, none⟩), .pointer (some ⟨y, 0, none⟩)] w fun e w' => e = .returned (.tuple #[]) ∧ Only [g, gb] w w' ∧ Me w' h g gb cap mb N (letW m c a) := by
  have ka : w.cell? ⟨x, 0, none⟩ = some (.pointer (some ⟨h, 0, none⟩)) := by simpa using hB.a.cell 0
  have kb : w.cell? ⟨y, 0, none⟩ = some (.int .i64 c) := by simpa using hB.b.cell 0
  have hS : Hid (Calls Tryd.prog 44 #[.pointer (some ⟨h, 0, none⟩), .int .i64 (4 + 4 * (c : Int)), .int .i64 a] w fun e w' => e = .returned (.tuple #[]) ∧ Only [g, gb] w w' ∧ Me w' h g gb cap mb N (upd m (4 + 4 * c) a)) := Lib.hid (by
    have := set_any H (p := 4 + 4 * c) (v := a) (by omega) (by omega) (by omega)
    push_cast at this; exact this)
  have e0 : upd m (4 + 4 * c) a 0 = m 0 := upd_ne (by omega)
  have hfl : (bits .and .i64 (((upd m (4 + 4 * c) a 0 : Nat) : Int) / 2 ^ c) 1 == 0) = false := by
    have hd : m 0 / 2 ^ c < 2 ^ 63 := Nat.lt_of_le_of_lt (Nat.div_le_self _ _) (by omega)
    have h1 := i64_and (m 0 / 2 ^ c) 1 hd (by omega)
    rw [show (1 : Nat) = 2 ^ 1 - 1 from rfl, Nat.and_two_pow_sub_one_eq_mod] at h1
    have h2 : m 0 / 2 ^ c % 2 = 1 := by
      have := Nat.testBit_eq_decide_div_mod_eq (x := m 0) (i := c)
      rw [hbit0] at this
      have := of_decide_eq_true this.symm
      exact this
    rw [e0]
    push_cast at h1
    have h3 : ((m 0 / 2 ^ c % 2 : Nat) : Int) = 1 := by rw [h2]; rfl
    push_cast at h3
    rw [h1.trans h3]; rfl
  have ha0 : ((a : Int) == 0) = false := by simp; omega
  have e1 : letW m c a = upd m (4 + 4 * c) a := by
    unfold letW
    rw [show decide (a ≠ 0) = true by simp; omega, bitW_id hbit0]
    funext x
    by_cases hx0 : x = 0
    · rw [hx0, upd_at, upd_ne (by omega)]
    · rw [upd_ne hx0]
  have E1 := Lib.hid e1
  have HB := Lib.hid hB
  have hcl := hB.a.lt
  clear H hB e0 hbit0 e1
  go_enter Tryd.func83, Tryd.ntmps83
  go_wp2_with (first
    | (go_at_call 44; (with_reducible refine (hS.out).mono ?_); rintro e w1 ⟨rfl, o1, H1⟩; have B1 := HB.out.only o1 (by simp; exact hx) (by simp; exact hy); have ka : w1.cell? ⟨x, 0, none⟩ = some (.pointer (some ⟨h, 0, none⟩)) := (by simpa using B1.a.cell 0); have kb : w1.cell? ⟨y, 0, none⟩ = some (.int .i64 c) := (by simpa using B1.b.cell 0))
    | (go_at_call 57; refine (get_any H1 (p := 0) (by omega) (by omega)).mono ?_; rintro e w2 ⟨rfl, o2, H2⟩; have B2 := B1.only o2 (by simp; exact hx.1) (by simp; exact hy.1); have ka : w2.cell? ⟨x, 0, none⟩ = some (.pointer (some ⟨h, 0, none⟩)) := (by simpa using B2.a.cell 0); have kb : w2.cell? ⟨y, 0, none⟩ = some (.int .i64 c) := (by simpa using B2.b.cell 0)))
  go_end0
  exact ⟨rfl, o1.trans o2 (by simp), by rw [E1.out]; exact H2⟩
end
end Go.Proofs.YthlaoanfoimkfaaDoor
namespace Go.Proofs.YthlaoanfoimkfaaDoor
open Go.RowKit
set_option linter.unusedVariables false
set_option linter.all false
set_option maxRecDepth 100000
theorem bitLen_log2 {z : Nat} (h0 : z ≠ 0) (h : z < 2 ^ 64) : Lib.bitLen z = Nat.log2 z + 1 := by
  obtain ⟨a, b, c⟩ := Lib.bitLenAux_bounds 64 z h h0
  have h1 : Lib.bitLenAux 64 z - 1 ≤ Nat.log2 z := (Nat.le_log2 h0).2 b
  have h2 : Nat.log2 z < Lib.bitLenAux 64 z := (Nat.log2_lt h0).2 c
  show Lib.bitLenAux 64 z = _
  omega
theorem class_any {z : Nat} (w : World) (h0 : 16 ≤ z) (h1 : z < 131072) :
    Calls Tryd.prog 58 #[.int .i64 z] w fun e w' => e = .returned (.int .i64 (cls z)) ∧ w = w' := by
  have hL := Tryd.bits_Len z w (by omega) (by omega)
  rw [Int.toNat_natCast, bitLen_log2 (by omega) (by omega)] at hL
  have hf0 : 4 ≤ Nat.log2 z := (Nat.le_log2 (by omega)).2 h0
  have hf1 : Nat.log2 z < 17 := (Nat.log2_lt (by omega)).2 h1
  unfold cls
  generalize Nat.log2 z = f at *
  obtain ⟨d, rfl⟩ : ∃ d, f = d + 1 := ⟨f - 1, by omega⟩
  have hand : bits .and .i64 ((z : Int) / 2 ^ d) 1 = ((z / 2 ^ d % 2 : Nat) : Int) := by
    have hd : z / 2 ^ d < 2 ^ 63 := Nat.lt_of_le_of_lt (Nat.div_le_self _ _) (by omega)
    have h1 := i64_and (z / 2 ^ d) 1 hd (by omega)
    rw [show (1 : Nat) = 2 ^ 1 - 1 from rfl, Nat.and_two_pow_sub_one_eq_mod] at h1
    push_cast at h1 ⊢
    exact h1
  rw [show d + 1 - 1 = d by omega]
  have hlt : z / 2 ^ d % 2 < 2 := Nat.mod_lt _ (by omega)
  generalize z / 2 ^ d % 2 = r at *
  have hL := Lib.hid hL
  go_enter Tryd.func58, Tryd.ntmps58
  go_wp2_with (go_at_call 77; refine hL.out.mono ?_; rintro e w' ⟨rfl, rfl⟩)
  go_ret
  refine ⟨?_, rfl⟩
  have : ((2 * (d + 1 - 4) + r : Nat) : Int) = 2 * ((d : Int) + 1 - 4) + r := by omega
  rw [this]; rfl
end Go.Proofs.YthlaoanfoimkfaaDoor
namespace Go.Proofs.YthlaoanfoimkfaaDoor
open Go.RowKit
set_option linter.unusedVariables false
set_option linter.all false
set_option maxRecDepth 100000
section
variable {w w' : World} {h g gb cap mb N : Nat} {m : Nat → Nat} {S : List Nat}
theorem let_any (H : Me w h g gb cap mb N m) {x y c : Nat} (hB : Bx w x y h c) (hc : c < 26) (hN : 256 ≤ N) (hx : x ≠ g ∧ x ≠ gb) (hy : y ≠ g ∧ y ≠ gb) (hm0 : m 0 < 67108864) {a : Nat} (ha2 : a < 4294967296) :
    Calls Tryd.prog 83 #[.int .i64 a, .pointer (some ⟨x, 0, none⟩), .pointer (some ⟨y, 0, none⟩)] w fun e w' => e = .returned (.tuple #[]) ∧ Only [g, gb] w w' ∧ Me w' h g gb cap mb N (letW m c a) := by
  by_cases h0 : a = 0
  · subst h0; exact let_zero H hB hc hN hx hy hm0
  · cases hb : (m 0).testBit c
    · exact let_new H hB hc hN hx hy hm0 (by omega) ha2 hb
    · exact let_old H hB hc hN hx hy hm0 (by omega) ha2 hb
theorem Me.glt (H : Me w h g gb cap mb N m) : g < w.heap.size ∧ gb < w.heap.size := by
  obtain ⟨bs, c, hA, e1, e2⟩ := H.mem
  exact ⟨hA.hdr.lt, (hA.row.lt gb rfl).2⟩
/-- The word 0 is as it was, behind what put lays. -/
theorem lay_zero {N : Nat} {m : Nat → Nat} {p z k n v a : Nat} (hp : 112 ≤ p) : unlink (upd (upd (layW N m p z k) (p + 8) n) (p + 12) v) n a 0 = m 0 := by
  rw [unlink_ne (by omega), upd_ne (by omega), upd_ne (by omega), layW_ne (by omega) (by omega)]
set_option maxHeartbeats 2000000 in
theorem put_walk (H : Me w h g gb cap mb N m) {p z c n : Nat} (hcls : cls z = c) (hc : c < 24) (hN : 256 ≤ N ∧ N ≤ 65536 ∧ N % 8 = 0) (hp : p % 8 = 0 ∧ 112 ≤ p) (hz : z % 8 = 0 ∧ 16 ≤ z) (he : p + z ≤ N) (hm0 : m 0 < 67108864) (hn : m (4 + 4 * c) = n) (hn2 : n ≠ 0 → n % 8 = 0 ∧ n + 16 ≤ N) :
    Calls Tryd.prog 45 #[.pointer (some ⟨h, 0, none⟩), .int .i64 p, .int .i64 z] w fun e w' => e = .returned (.tuple #[]) ∧ Only [g, gb] w w' ∧ Me w' h g gb cap mb N (putW N m p z c) := by
  have hnb : n < 4294967296 := by by_cases h0 : n = 0; omega; have := hn2 h0; omega
  have hput : putW N m p z c = letW (unlink (upd (upd (layW N m p z 1) (p + 8) n) (p + 12) 0) n p) c p := by unfold putW; rw [hn]
  have hz0 := lay_zero (N := N) (m := m) (p := p) (z := z) (k := 1) (n := n) (v := 0) (a := p) hp.2
  have HC := Lib.hid (class_any (z := z) w (by omega) (by omega))
  rw [hcls] at HC
  have hF : ∀ w1 x y, Me w1 h g gb cap mb N m → Bx w1 x y h c → Calls Tryd.prog 82 #[.pointer (some ⟨x, 0, none⟩), .pointer (some ⟨y, 0, none⟩)] w1 fun e w' => e = .returned (.int .i64 n) ∧ Only [g] w1 w' ∧ Me w' h g gb cap mb N m := fun w1 x y H1 B1 => by
    have := first_any H1 B1 (by omega) hN.1
    rw [hn] at this
    exact this
  have hL : ∀ w1, Me w1 h g gb cap mb N m → Calls Tryd.prog 76 #[.pointer (some ⟨h, 0, none⟩), .int .i64 p, .int .i64 z, .bool true] w1 fun e w' => e = .returned (.tuple #[]) ∧ Only [g, gb] w1 w' ∧ Me w' h g gb cap mb N (layW N m p z 1) := fun w1 H1 => lay_any H1 (k := 1) (by omega) hN.2.1 hp.1 hz.1 hz.2 he hN.2.2
  rw [hput]
  generalize layW N m p z 1 = M1 at hL hz0 ⊢
  have h1 : ∀ w1, Me w1 h g gb cap mb N M1 → Calls Tryd.prog 44 #[.pointer (some ⟨h, 0, none⟩), .int .i64 ((p : Int) + 8), .int .i64 n] w1 fun e w' => e = .returned (.tuple #[]) ∧ Only [g, gb] w1 w' ∧ Me w' h g gb cap mb N (upd M1 (p + 8) n) := fun w1 H1 => by
    have := set_any H1 (p := p + 8) (v := n) (by omega) (by omega) hnb
    push_cast at this; exact this
  generalize upd M1 (p + 8) n = M2 at h1 hz0 ⊢
  have h2 : ∀ w1, Me w1 h g gb cap mb N M2 → Calls Tryd.prog 44 #[.pointer (some ⟨h, 0, none⟩), .int .i64 ((p : Int) + 12), .int .i64 0] w1 fun e w' => e = .returned (.tuple #[]) ∧ Only [g, gb] w1 w' ∧ Me w' h g gb cap mb N (upd M2 (p + 12) 0) := fun w1 H1 => by
    have := set_any H1 (p := p + 12) (v := 0) (by omega) (by omega) (by omega)
    push_cast at this; exact this
  generalize upd M2 (p + 12) 0 = M3 at h2 hz0 ⊢
  have h3 : n ≠ 0 → ∀ w1, Me w1 h g gb cap mb N M3 → Calls Tryd.prog 44 #[.pointer (some ⟨h, 0, none⟩), .int .i64 ((n : Int) + 12), .int .i64 p] w1 fun e w' => e = .returned (.tuple #[]) ∧ Only [g, gb] w1 w' ∧ Me w' h g gb cap mb N (upd M3 (n + 12) p) := fun h0 w1 H1 => by
    have := hn2 h0
    have := set_any H1 (p := n + 12) (v := p) (by omega) (by omega) (by omega)
    push_cast at this; exact this
  have h4 : ∀ M4, M4 0 = m 0 → ∀ w1 x y, Me w1 h g gb cap mb N M4 → Bx w1 x y h c → x ≠ g ∧ x ≠ gb → y ≠ g ∧ y ≠ gb → Calls Tryd.prog 83 #[.int .i64 p, .pointer (some ⟨x, 0, none⟩), .pointer (some ⟨y, 0, none⟩)] w1 fun e w' => e = .returned (.tuple #[]) ∧ Only [g, gb] w1 w' ∧ Me w' h g gb cap mb N (letW M4 c p) := fun M4 e0 w1 x y H1 B1 hx hy => let_any H1 B1 (by omega) hN.1 hx hy (by omega) (by omega)
  have hlt := H.glt
  have hpb : p < 65536 := by omega
  have HH := Lib.hid H
  replace hF := Lib.hid hF
  replace hL := Lib.hid hL
  replace h1 := Lib.hid h1
  replace h2 := Lib.hid h2
  replace h4 := Lib.hid h4
  replace hz0 := Lib.hid hz0
  clear hput hm0 hn H hN hp hz he hcls hc
  by_cases h0 : n = 0
  · have hd : ((n : Int) == 0) = true := by simp; omega
    have hu : unlink M3 n p = M3 := by unfold unlink; rw [if_neg (by omega)]
    have hU := Lib.hid hu
    clear h3 hn2 h0 hu
    go_enter Tryd.func45, Tryd.ntmps45
    go_wp2_with (first
      | (go_at_call 58; (with_reducible refine HC.out.mono ?_); rintro e w0 ⟨rfl, rfl⟩)
      | (go_at_call 59; refine (list_any h c w).mono ?_; rintro e w1 ⟨x, y, rfl, o1, B1, hx1, hy1⟩)
      | (go_at_call 82; (with_reducible refine (hF.out _ _ _ (HH.out.only0 o1) B1).mono ?_); rintro e w2 ⟨rfl, o2, H2⟩)
      | (go_at_call 76; (with_reducible refine (hL.out _ H2).mono ?_); rintro e w3 ⟨rfl, o3, H3⟩)
      | (go_at_call 44; (with_reducible refine (h1.out _ H3).mono ?_); rintro e w4 ⟨rfl, o4, H4⟩)
      | (go_at_call 44; (with_reducible refine (h2.out _ H4).mono ?_); rintro e w5 ⟨rfl, o5, H5⟩)
      | (go_at_call 83; (with_reducible refine (h4.out _ (by rw [← hU.out]; exact hz0.out) _ _ _ H5 ((((B1.only o2 (by simp; omega) (by simp; omega)).only o3 (by simp; omega) (by simp; omega)).only o4 (by simp; omega) (by simp; omega)).only o5 (by simp; omega) (by simp; omega)) (by omega) (by omega)).mono ?_); rintro e w7 ⟨rfl, o7, H7⟩))
    go_end0
    rw [hU.out]
    exact ⟨rfl, (((((o1.mono (by simp) : Only [g, gb] _ _).trans o2 (by simp)).trans o3 (by simp)).trans o4 (by simp)).trans o5 (by simp)).trans o7 (by simp), H7⟩
  · have hd : ((n : Int) == 0) = false := by simp; omega
    have hu : unlink M3 n p = upd M3 (n + 12) p := by unfold unlink; rw [if_pos h0]
    have hU := Lib.hid hu
    replace h3 := Lib.hid (h3 h0)
    clear hn2 h0 hu
    go_enter Tryd.func45, Tryd.ntmps45
    go_wp2_with (first
      | (go_at_call 58; (with_reducible refine HC.out.mono ?_); rintro e w0 ⟨rfl, rfl⟩)
      | (go_at_call 59; refine (list_any h c w).mono ?_; rintro e w1 ⟨x, y, rfl, o1, B1, hx1, hy1⟩)
      | (go_at_call 82; (with_reducible refine (hF.out _ _ _ (HH.out.only0 o1) B1).mono ?_); rintro e w2 ⟨rfl, o2, H2⟩)
      | (go_at_call 76; (with_reducible refine (hL.out _ H2).mono ?_); rintro e w3 ⟨rfl, o3, H3⟩)
      | (go_at_call 44; (with_reducible refine (h1.out _ H3).mono ?_); rintro e w4 ⟨rfl, o4, H4⟩)
      | (go_at_call 44; (with_reducible refine (h2.out _ H4).mono ?_); rintro e w5 ⟨rfl, o5, H5⟩)
      | (go_at_call 44; (with_reducible refine (h3.out _ H5).mono ?_); rintro e w6 ⟨rfl, o6, H6⟩)
      | (go_at_call 83; (with_reducible refine (h4.out _ (by rw [← hU.out]; exact hz0.out) _ _ _ H6 (((((B1.only o2 (by simp; omega) (by simp; omega)).only o3 (by simp; omega) (by simp; omega)).only o4 (by simp; omega) (by simp; omega)).only o5 (by simp; omega) (by simp; omega)).only o6 (by simp; omega) (by simp; omega)) (by omega) (by omega)).mono ?_); rintro e w7 ⟨rfl, o7, H7⟩))
    go_end0
    rw [hU.out]
    exact ⟨rfl, ((((((o1.mono (by simp) : Only [g, gb] _ _).trans o2 (by simp)).trans o3 (by simp)).trans o4 (by simp)).trans o5 (by simp)).trans o6 (by simp)).trans o7 (by simp), H7⟩
end
end Go.Proofs.YthlaoanfoimkfaaDoor
