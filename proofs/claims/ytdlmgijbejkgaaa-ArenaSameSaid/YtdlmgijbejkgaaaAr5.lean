/- Walks over the reference of arena. -/
import Derived.Test.YtdlmgijbejkgaaaAr4
import Derived.Handy
namespace Go.Proofs.Ytdlmgijbejkgaaa
open Go.RowKit
set_option linter.unusedVariables false
set_option linter.unusedSimpArgs false

/-- The reference's arena in memory. -/
structure RAr (w : World) (g gb cap : Nat) (bs : List UInt8) (c : Int) : Prop where
  hdr : Blk w g 58 #[.slice (some ⟨gb, 0, none⟩) bs.length cap, .int .i64 c]
  row : w.ownsRow 0 5 1 (.slice (some ⟨gb, 0, none⟩) bs.length cap) bs.length (U8s bs)
  pos : 0 < bs.length
  max : bs.length ≤ 65536
  d8 : bs.length % 8 = 0
section
variable {w w' : World} {g gb cap : Nat} {bs : List UInt8} {c c' : Int} {S : List Nat}
theorem RAr.only (h : RAr w g gb cap bs c) (ho : Only S w w') (h1 : g ∉ S) (h2 : gb ∉ S) : RAr w' g gb cap bs c :=
  ⟨h.hdr.only ho h1, own_only h.row ho (fun x hx => by simp [Value.ownBlock] at hx; subst hx; exact h2), h.pos, h.max, h.d8⟩
theorem RAr.ne (h : RAr w g gb cap bs c) : gb ≠ g := fun e => own_blk_ne h.row h.hdr (by decide) (by simp [Value.ownBlock, e])
theorem RAr.cell (h : RAr w g gb cap bs c) (i : Nat) (hi : i < bs.length) : w.cell? ⟨gb, i, none⟩ = some (U8 (bs.getD i 0)) := by
  rw [h.row.cellAt i (by omega), U8s_get, List.getD_eq_getElem?_getD, List.getElem?_eq_getElem hi]; rfl
theorem RAr.lt (h : RAr w g gb cap bs c) : gb < w.heap.size := (h.row.lt gb (by simp [Value.ownBlock])).2
theorem RAr.le (h : RAr w g gb cap bs c) : bs.length ≤ cap ∧ cap ≤ maxLen := by
  rcases h.row.2 with ⟨h', _⟩ | ⟨g', cap', cur, h', _, _, hn, hm, _⟩
  · simp at h'
  · simp only [Value.slice.injEq] at h'; omega
theorem RAr.bump (h : RAr w g gb cap bs c) : RAr (w.setCell ⟨g, 1, none⟩ (.int .i64 c')) g gb cap bs c' :=
  ⟨by simpa using h.hdr.set_ 1 (.int .i64 c'), ownsRow_setCell_other h.row (by simp [Value.ownBlock]; exact h.ne) _, h.pos, h.max, h.d8⟩
theorem Ar.src (h : Ar w g gb cap bs c) : Src w (some ⟨gb, 0, none⟩) bs := Src.own h.row
theorem RAr.src (h : RAr w g gb cap bs c) : Src w (some ⟨gb, 0, none⟩) bs := Src.own h.row
end

theorem rnew_bad (n : Int) (w : World) (h : n < 256 ∨ 65536 < n ∨ n % 8 ≠ 0) (h0 : -9223372036854775808 ≤ n) (h1 : n ≤ 9223372036854775807) :
    Calls Try.prog 10 #[.int .i64 n] w fun e w' => e = .returned (.pointer none) ∧ w = w' := by
  by_cases a : n < 256
  · go_enter Try.func10, Try.ntmps10
    go_wp2
    go_ret
    exact ⟨rfl, rfl⟩
  · by_cases b : 65536 < n
    · go_enter Try.func10, Try.ntmps10
      go_wp2
      go_ret
      exact ⟨rfl, rfl⟩
    · have c : (n % 8 == 0) = false := by simp; omega
      have c' : (n % 8 != 0) = true := by simp; omega
      go_enter Try.func10, Try.ntmps10
      go_wp2
      go_ret
      exact ⟨rfl, rfl⟩

set_option maxHeartbeats 400000 in
theorem rnew_good (n : Nat) (w : World) (h0 : 256 ≤ n) (h1 : n ≤ 65536) (h8 : n % 8 = 0) :
    Calls Try.prog 10 #[.int .i64 n] w fun e w' => e = .returned (.pointer (some ⟨w.heap.size + 1, 0, none⟩)) ∧ Only [] w w' ∧ RAr w' (w.heap.size + 1) w.heap.size n (List.replicate n 0) 0 := by
  have c : ((n : Int) % 8 == 0) = true := by simp; omega
  have c' : ((n : Int) % 8 != 0) = false := by simp; omega
  have b0 : ¬ (n : Int) < 256 := by omega
  have b1 : ¬ 65536 < (n : Int) := by omega
  obtain ⟨i0, hi, hz0, hz1, hz2⟩ := info_parts u8_info
  have hmk : ∀ W : World, (Instr.makeSlice 36 (.int .i64 (n : Int)) (.int .i64 (n : Int))).run Try.prog W = .ok (.slice (some ⟨W.heap.size, 0, none⟩) n n) (W.alloc (.cells (madeCells #[.int .u8 0] n) 5)) := fun W => by
    have h := run_make (P := Try.prog) W 36 5 i0 (.int .u8 0) Try.underlying36 hi hz0 .i64 .i64 n n (by omega) (by omega) (by rw [hz2]; omega) (by omega)
    rw [hz1] at h
    simpa [Value.cells] using h
  have H8 := Lib.hid h8
  clear h8
  go_enter Try.func10, Try.ntmps10
  go_wp2_with fail
  go_ret
  refine ⟨rfl, ((Only.refl _ _).alloc _).alloc _, ?_⟩
  have hm : madeCells #[Value.int .u8 0] n = (U8s (List.replicate n 0)).toArray := by
    apply Array.toList_inj.1
    rw [toList_madeCells_one]
    simp [U8s, U8]
  refine ⟨by simpa using Blk.new (w.alloc _) 58 #[.slice (some ⟨w.heap.size, 0, none⟩) n n, .int .i64 0], ?_, by simp; omega, by simp; omega, by simpa using H8.out⟩
  rw [hm]
  have h := (World.ownsRow_lit (base := 0) (e := 5) (size := 1) w (U8s (List.replicate n 0)).toArray n (by omega) (by unfold maxLen; omega) (by simp [length_U8s])).alloc (.cells #[.slice (some ⟨w.heap.size, 0, none⟩) n n, .int .i64 0] 58)
  simpa using h

set_option maxRecDepth 100000 in
set_option maxHeartbeats 1000000 in
theorem rget_core (g gb cap n : Nat) (c : Int) (off : Nat) (x0 x1 x2 x3 : Nat) (w : World) (k0 : w.cell? ⟨g, 0, none⟩ = some (.slice (some ⟨gb, 0, none⟩) n cap)) (k1 : w.cell? ⟨g, 1, none⟩ = some (.int .i64 c)) (f1 : w.frozen? ⟨g, 1, none⟩ = false)
    (hg : g < w.heap.size) (hgb : gb < w.heap.size) (hne : gb ≠ g) (hfit : off + 4 ≤ n) (hn : n ≤ 65536) (h4 : off % 4 = 0) (hc0 : 0 ≤ c) (hc1 : c < 1000000)
    (b0 : w.cell? ⟨gb, off, none⟩ = some (.int .u8 x0)) (b1 : w.cell? ⟨gb, off + 1, none⟩ = some (.int .u8 x1)) (b2 : w.cell? ⟨gb, off + 2, none⟩ = some (.int .u8 x2)) (b3 : w.cell? ⟨gb, off + 3, none⟩ = some (.int .u8 x3))
    (l0 : x0 < 256) (l1 : x1 < 256) (l2 : x2 < 256) (l3 : x3 < 256) :
    Calls Try.prog 29 #[.pointer (some ⟨g, 0, none⟩), .int .i64 off] w fun e w' => e = .returned (.tuple #[.int .u32 (part x0 x1 x2 x3 4), .int .i64 0]) ∧
      ∃ k, (w.setCell ⟨g, 1, none⟩ (.int .i64 (c + 1))).drewN k = w' := by
  have c4 : ((off : Int) % 4 == 0) = true := by simp; omega
  have c4' : ((off : Int) % 4 != 0) = false := by simp; omega
  have i0 : (0 : Int) ≤ (off : Int) := by omega
  have i1 : (off : Int) + 3 < (n : Int) := by omega
  have w1 : IntKind.i64.wrap ((off : Int) + 1) = (off : Int) + 1 := IntWalk.i64_in _ (by omega)
  have w2 : IntKind.i64.wrap ((off : Int) + 2) = (off : Int) + 2 := IntWalk.i64_in _ (by omega)
  have w3 : IntKind.i64.wrap ((off : Int) + 3) = (off : Int) + 3 := IntWalk.i64_in _ (by omega)
  have t1 : ((off : Int) + 1).toNat = off + 1 := by omega
  have t2 : ((off : Int) + 2).toNat = off + 2 := by omega
  have t3 : ((off : Int) + 3).toNat = off + 3 := by omega
  have j1 : 0 ≤ (off : Int) + 1 ∧ (off : Int) + 1 < (n : Int) := by omega
  have j2 : 0 ≤ (off : Int) + 2 ∧ (off : Int) + 2 < (n : Int) := by omega
  have j3 : 0 ≤ (off : Int) + 3 ∧ (off : Int) + 3 < (n : Int) := by omega
  have m0 : (x0 : Int) < 256 := by omega
  have m1 : (x1 : Int) < 256 := by omega
  have m2 : (x2 : Int) < 256 := by omega
  have m3 : (x3 : Int) < 256 := by omega
  clear h4
  go_enter Try.func29, Try.ntmps29
  go_wp2_with fail
  go_quiet (fail)
  go_wp2
  go_ret2
  refine ⟨?_, _, rfl⟩
  simp [part]
  omega
end Go.Proofs.Ytdlmgijbejkgaaa
