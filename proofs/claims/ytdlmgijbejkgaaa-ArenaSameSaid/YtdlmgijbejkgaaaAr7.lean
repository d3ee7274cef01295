/- Walks over arena: Same of both texts, the law's small functions. -/
import Derived.Test.YtdlmgijbejkgaaaAr6
namespace Go.Proofs.Ytdlmgijbejkgaaa
open Go.RowKit
set_option linter.unusedVariables false
set_option linter.unusedSimpArgs false

theorem rwrite_good (g gb cap m cp : Nat) (bs : List UInt8) (c : Int) (off : Nat) (a : Option Addr) (ds : List UInt8) (w : World) (h : RAr w g gb cap bs c) (hl : ds.length = m) (hfit : off + m ≤ bs.length) (hs : Src w a ds) (hsb : 0 < ds.length → ∀ ad, a = some ad → ad.spot = none ∧ ad.block ≠ gb) :
    Calls Try.prog 32 #[.pointer (some ⟨g, 0, none⟩), .int .i64 off, .slice a m cp] w fun e w' => e = .returned (.int .i64 0) ∧ Only [gb] w w' ∧ RAr w' g gb cap (splice bs off ds) c := by
  obtain ⟨cur, hcur, hlc, ht, hn, hm, _⟩ := own_block h.row
  have hlen : (splice bs off ds).length = bs.length := length_splice _ _ _ (by omega)
  refine (rwrite_core g gb cap bs.length m cp cur c off a ds w h.hdr hcur h.ne hlc hfit hn h.max hl hs hsb).mono ?_
  rintro e w' ⟨rfl, ho', hr'⟩
  refine ⟨rfl, ho', ⟨by rw [hlen]; exact h.hdr.only ho' (by simpa using h.ne.symm), ?_, by rw [hlen]; exact h.pos, by rw [hlen]; exact h.max, by rw [hlen]; exact h.d8⟩⟩
  have := own_splice h.row hcur hr' (by rw [length_U8s]; omega)
  rw [hlen]
  unfold U8s at this ⊢
  rw [splice_map]
  exact this

theorem toList_mk (a : List UInt8) : (⟨a.toArray⟩ : ByteArray).toList = a := by simp

theorem equal_any (a b : Option Addr) (xs ys : List UInt8) (n m c d : Nat) (w : World) (ha : xs.length = n) (hb : ys.length = m) (sa : Src w a xs) (sb : Src w b ys) :
    Calls Try.prog 35 #[.slice a n c, .slice b m d] w fun e w' => e = .returned (.bool (xs == ys)) ∧ w = w' := by
  have e1 := run_str (P := Try.prog) (dst := 9) Try.underlying36 Try.underlying5 Try.underlying9 n c ha sa
  have e2 := run_str (P := Try.prog) (dst := 9) Try.underlying36 Try.underlying5 Try.underlying9 m d hb sb
  clear ha hb
  go_enter Try.func35, Try.ntmps35
  go_wp2
  go_ret
  exact ⟨rfl, rfl⟩

set_option maxHeartbeats 400000 in
theorem same_any (g gb cap g' gb' cap' : Nat) (bs bs' : List UInt8) (c c' : Int) (w : World) (h : Ar w g gb cap bs c) (h' : Ar w g' gb' cap' bs' c') :
    Calls Try.prog 17 #[.pointer (some ⟨g, 0, none⟩), .pointer (some ⟨g', 0, none⟩)] w fun e w' => e = .returned (.bool (bs == bs')) ∧ ∃ k, w.drewN k = w' := by
  have k0 : w.cell? ⟨g, 0, none⟩ = some (.slice (some ⟨gb, 0, none⟩) bs.length cap) := by simpa using h.hdr.cell 0
  have k1 : w.cell? ⟨g', 0, none⟩ = some (.slice (some ⟨gb', 0, none⟩) bs'.length cap') := by simpa using h'.hdr.cell 0
  have hp := h.pos
  have hp' := h'.pos
  go_enter Try.func17, Try.ntmps17
  go_wp2_with fail
  refine (there_yes _ _ _ _ _ k0 hp).mono ?_
  rintro e w' ⟨rfl, rfl⟩
  go_wp2_with fail
  refine (there_yes _ _ _ _ _ k1 hp').mono ?_
  rintro e w' ⟨rfl, rfl⟩
  go_wp2_with fail
  go_quiet ((go_at_call 35; exact quiet_left (equal_any _ _ bs bs' _ _ _ _ _ rfl rfl (h.src.drewN _) (h'.src.drewN _))))
  go_wp2
  go_ret
  exact ⟨rfl, _, rfl⟩

set_option maxHeartbeats 400000 in
theorem rsame_any (g gb cap g' gb' cap' : Nat) (bs bs' : List UInt8) (c c' : Int) (w : World) (h : RAr w g gb cap bs c) (h' : RAr w g' gb' cap' bs' c') :
    Calls Try.prog 18 #[.pointer (some ⟨g, 0, none⟩), .pointer (some ⟨g', 0, none⟩)] w fun e w' => e = .returned (.bool (bs == bs')) ∧ ∃ k, w.drewN k = w' := by
  have k0 : w.cell? ⟨g, 0, none⟩ = some (.slice (some ⟨gb, 0, none⟩) bs.length cap) := by simpa using h.hdr.cell 0
  have k1 : w.cell? ⟨g', 0, none⟩ = some (.slice (some ⟨gb', 0, none⟩) bs'.length cap') := by simpa using h'.hdr.cell 0
  have e1 := fun n => run_str (P := Try.prog) (dst := 9) Try.underlying36 Try.underlying5 Try.underlying9 bs.length cap rfl (h.src.drewN n)
  have e2 := fun n => run_str (P := Try.prog) (dst := 9) Try.underlying36 Try.underlying5 Try.underlying9 bs'.length cap' rfl (h'.src.drewN n)
  go_enter Try.func18, Try.ntmps18
  go_wp2_with fail
  go_quiet (fail)
  go_wp2
  go_ret
  exact ⟨rfl, _, rfl⟩
theorem rsame_nil (p q : Option Addr) (w : World) (h : p = none ∨ q = none) :
    Calls Try.prog 18 #[.pointer p, .pointer q] w fun e w' => e = .returned (.bool (p.isNone && q.isNone)) ∧ w = w' := by
  rcases p with _ | p
  · rcases q with _ | q
    · go_enter Try.func18, Try.ntmps18
      go_wp2
      go_ret
      exact ⟨rfl, rfl⟩
    · go_enter Try.func18, Try.ntmps18
      go_wp2
      go_ret
      exact ⟨rfl, rfl⟩
  · obtain rfl : q = none := by simpa using h
    go_enter Try.func18, Try.ntmps18
    go_wp2
    go_ret
    exact ⟨rfl, rfl⟩
theorem num_any (n : Int) (w : World) : Calls Try.prog 9 #[.int .i64 n] w fun e w' => e = .returned (.int .i64 n) ∧ w = w' := by
  go_enter Try.func9, Try.ntmps9
  go_wp2
  go_ret
  exact ⟨rfl, rfl⟩
end Go.Proofs.Ytdlmgijbejkgaaa
