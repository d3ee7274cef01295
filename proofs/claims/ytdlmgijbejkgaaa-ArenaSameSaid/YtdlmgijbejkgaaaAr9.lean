/- Walks over arena's law: much, stands, do. -/
import Derived.Test.YtdlmgijbejkgaaaAr8
namespace Go.Proofs.Ytdlmgijbejkgaaa
open Go.RowKit
set_option linter.unusedVariables false
set_option linter.all false

/-- A step as the law's slice holds it. -/
structure St where
  kd : Int
  off : Int
  n : Int
  word : Nat
  dA : Option Addr
  dc : Nat
  ds : List UInt8

structure St.ok (B : Nat) (w : World) (s : St) : Prop where
  o1 : -9223372036854775808 ≤ s.off
  o2 : s.off ≤ 9223372036854775807
  m1 : -9223372036854775808 ≤ s.n
  m2 : s.n ≤ 9223372036854775807
  wd : s.word < 4294967296
  len : s.ds.length ≤ 140737488351232
  src : Src w s.dA s.ds
  old : 0 < s.ds.length → ∀ ad, s.dA = some ad → ad.spot = none ∧ ad.block < B
def Script (B : Nat) (w : World) (A : Option Addr) (n : Nat) : Prop := ∀ k, k < n → ∃ (a : Addr) (s : St), A = some a ∧ a.block < B ∧ s.ok B w ∧ w.cell? (a.add (k * 5)) = some (.int .i64 s.kd) ∧ w.cell? ⟨(a.add (k * 5)).block, (a.add (k * 5)).off + 1, none⟩ = some (.int .i64 s.off) ∧
  w.cell? ⟨(a.add (k * 5)).block, (a.add (k * 5)).off + 2, none⟩ = some (.int .i64 s.n) ∧ w.cell? ⟨(a.add (k * 5)).block, (a.add (k * 5)).off + 3, none⟩ = some (.int .u32 s.word) ∧ w.cell? ⟨(a.add (k * 5)).block, (a.add (k * 5)).off + 4, none⟩ = some (.slice s.dA s.ds.length s.dc)

theorem much_any (A : Option Addr) (n c : Nat) (w : World) (B : Nat) (h : Script B w A n) : Calls Try.prog 15 #[.slice A n c] w fun e w' => (∃ b, e = .returned (.bool b)) ∧ Only [] w w' := by
  have H := hide h
  clear h
  go_enter Try.func15, Try.ntmps15
  go_wp2_with fail
  go_loopw [3, 4] (fun v i wr => ∃ k m : Nat, k ≤ n ∧ k ≤ 200 ∧ m ≤ k * 99999 ∧ i = .int .i64 k ∧ v = .int .i64 m ∧ ∃ q, w.drewN q = wr) (fun v i _ => 200 - (intOf i).toNat)
  case atStart => exact ⟨0, 0, Nat.zero_le _, by omega, by omega, rfl, rfl, 0, rfl⟩
  case round =>
    obtain ⟨k, m, hk, hk2, hm, rfl, rfl, q, rfl⟩ := hrel
    by_cases hlt : k < n
    · have i1 : (k : Int) < (n : Int) := by omega
      have i0 : (0 : Int) ≤ (k : Int) := by omega
      by_cases h2 : k < 200
      · have i2 : (k : Int) < 200 := by omega
        have m0 : (m : Int) ≤ 20000000 := by omega
        obtain ⟨a, s, rfl, hlo, hok, c0, c1, c2, c3, c4⟩ := H.out k hlt
        have hok := hide hok
        go_wp2_with fail
        go_roundw
        case rel => exact ⟨k + 1, m + min s.ds.length 99999, by omega, by omega, by omega, by go_num, by rw [show (if (99999 : Int) < (s.ds.length : Int) then (99999 : Int) else (s.ds.length : Int)) = ((min s.ds.length 99999 : Nat) : Int) from by split <;> omega]; go_num, _, rfl⟩
        case measure => simp [intOf]; omega
      · have d2 : decide ((k : Int) < 200) = false := by simp; omega
        go_wp2_with fail
        go_ret
        exact ⟨⟨_, rfl⟩, (Only.refl _ _).drewN _⟩
    · have d1 : decide ((k : Int) < (n : Int)) = false := by simp; omega
      go_wp2_with fail
      go_ret
      exact ⟨⟨_, rfl⟩, (Only.refl _ _).drewN _⟩

/-- An arena and its reference, with the same bytes and cost, in blocks apart, all from B on. -/
structure Pr (w : World) (B g gb cap rg rgb rcap : Nat) (bs : List UInt8) (c : Int) : Prop where
  a : Ar w g gb cap bs c
  r : RAr w rg rgb rcap bs c
  n1 : g ≠ rg
  n2 : g ≠ rgb
  n3 : gb ≠ rg
  n4 : gb ≠ rgb
  g1 : B ≤ g
  g2 : B ≤ gb
  g3 : B ≤ rg
  g4 : B ≤ rgb
  c0 : 0 ≤ c
  l0 : 256 ≤ bs.length

set_option maxHeartbeats 1000000 in
theorem stands_any {B g gb cap rg rgb rcap : Nat} {bs : List UInt8} {c : Int} {w : World} (h : Pr w B g gb cap rg rgb rcap bs c) :
    Calls Try.prog 19 #[.pointer (some ⟨g, 0, none⟩), .pointer (some ⟨rg, 0, none⟩)] w fun e w' => e = .returned (.bool true) ∧ Only [] w w' := by
  have H := hide h
  clear h
  have k0 : w.cell? ⟨rg, 0, none⟩ = some (.slice (some ⟨rgb, 0, none⟩) bs.length rcap) := by simpa using H.out.r.hdr.cell 0
  have k1 : w.cell? ⟨rg, 1, none⟩ = some (.int .i64 c) := by simpa using H.out.r.hdr.cell 1
  go_enter Try.func19, Try.ntmps19
  go_wp2_with fail
  refine (read_good g gb cap bs c 0 bs.length _ H.out.a (by omega)).mono ?_
  rintro e w2 ⟨⟨g', cap', rfl, hown⟩, o2⟩
  have q0 := o2.keep0 k0
  have q1 := o2.keep0 k1
  have hA := H.out.a.only o2 (by simp) (by simp)
  have hR := H.out.r.only o2 (by simp) (by simp)
  have hs1 : Src w2 (some ⟨g', 0, none⟩) bs := by
    have := Src.own hown
    rwa [List.drop_zero, List.take_length] at this
  have e1 := fun n => run_str (P := Try.prog) (dst := 9) Try.underlying36 Try.underlying5 Try.underlying9 bs.length cap' rfl (hs1.drewN n)
  have e2 := fun n => run_str (P := Try.prog) (dst := 9) Try.underlying36 Try.underlying5 Try.underlying9 bs.length rcap rfl (hR.src.drewN n)
  clear hown k0 k1 hs1
  go_wp2_with fail
  go_big_quiet (first
    | (go_at_call 9; exact quiet_left (num_any _ _))
    | (go_at_call 36; exact quiet_left (size_any _ _ _ _ _ _ (hA.only ((Only.refl [] _).drewN _) (by simp) (by simp))))
    | (go_at_call 14; exact quiet_left (cost_any _ _ _ _ _ _ (hA.only ((Only.refl [] _).drewN _) (by simp) (by simp)))))
  go_wp2
  go_ret
  exact ⟨rfl, o2.drewN _⟩
end Go.Proofs.Ytdlmgijbejkgaaa
