/- Walks over arena: New, there, ask, word. -/
import Derived.Test.YthlaoanfoimkfaaDoorProg
import Derived.Test.YthlaoanfoimkfaaDoorBase
import Derived.Deep.QuietTactic
import Derived.BigQuiet
import Derived.Deep.DeepFit
import Derived.Laws.CopyOwn
import Derived.Laws.Cover3
namespace Go.Proofs.YthlaoanfoimkfaaDoor
open Go.RowKit
set_option linter.unusedVariables false
set_option linter.unusedSimpArgs false
set_option maxRecDepth 100000

theorem u8_info : (Tryd.prog.info? 5).map (fun i => (i.zero, i.size, i.bytes)) = some (some (.int .u8 0), 1, 1) := by kernel_rfl

/-- An arena in memory: its header in block g, its bytes in block gb. -/
structure Ar (w : World) (g gb cap : Nat) (bs : List UInt8) (c : Int) : Prop where
  hdr : Blk w g 78 #[.slice (some ⟨gb, 0, none⟩) bs.length cap, .int .i64 c]
  row : w.ownsRow 0 5 1 (.slice (some ⟨gb, 0, none⟩) bs.length cap) bs.length (U8s bs)
  pos : 0 < bs.length
  max : bs.length ≤ 65536
  d8 : bs.length % 8 = 0

theorem new_bad (n : Int) (w : World) (h : n < 256 ∨ 65536 < n ∨ n % 8 ≠ 0) (h0 : -9223372036854775808 ≤ n) (h1 : n ≤ 9223372036854775807) :
    Calls Tryd.prog 13 #[.int .i64 n] w fun e w' => e = .returned (.tuple #[.pointer none, .int .i64 2]) ∧ w = w' := by
  by_cases a : n < 256
  · go_enter Tryd.func13, Tryd.ntmps13
    go_wp2
    go_ret2
    exact ⟨rfl, rfl⟩
  · by_cases b : 65536 < n
    · go_enter Tryd.func13, Tryd.ntmps13
      go_wp2
      go_ret2
      exact ⟨rfl, rfl⟩
    · have c : (n % 8 == 0) = false := by simp; omega
      have c' : (n % 8 != 0) = true := by simp; omega
      go_enter Tryd.func13, Tryd.ntmps13
      go_wp2
      go_ret2
      exact ⟨rfl, rfl⟩

set_option maxHeartbeats 400000 in
theorem new_good (n : Nat) (w : World) (h0 : 256 ≤ n) (h1 : n ≤ 65536) (h8 : n % 8 = 0) :
    Calls Tryd.prog 13 #[.int .i64 n] w fun e w' => e = .returned (.tuple #[.pointer (some ⟨w.heap.size + 1, 0, none⟩), .int .i64 0]) ∧ Only [] w w' ∧ Ar w' (w.heap.size + 1) w.heap.size n (List.replicate n 0) 0 := by
  have c : ((n : Int) % 8 == 0) = true := by simp; omega
  have c' : ((n : Int) % 8 != 0) = false := by simp; omega
  have b0 : ¬ (n : Int) < 256 := by omega
  have b1 : ¬ 65536 < (n : Int) := by omega
  obtain ⟨i0, hi, hz0, hz1, hz2⟩ := info_parts u8_info
  have hmk : ∀ W : World, (Instr.makeSlice 38 (.int .i64 (n : Int)) (.int .i64 (n : Int))).run Tryd.prog W = .ok (.slice (some ⟨W.heap.size, 0, none⟩) n n) (W.alloc (.cells (madeCells #[.int .u8 0] n) 5)) := fun W => by
    have h := run_make (P := Tryd.prog) W 38 5 i0 (.int .u8 0) Tryd.underlying38 hi hz0 .i64 .i64 n n (by omega) (by omega) (by rw [hz2]; omega) (by omega)
    rw [hz1] at h
    simpa [Value.cells] using h
  have H8 := Lib.hid h8
  clear h8
  go_enter Tryd.func13, Tryd.ntmps13
  go_wp2_with fail
  go_ret2
  refine ⟨rfl, ((Only.refl _ _).alloc _).alloc _, ?_⟩
  have hm : madeCells #[Value.int .u8 0] n = (U8s (List.replicate n 0)).toArray := by
    apply Array.toList_inj.1
    rw [toList_madeCells_one]
    simp [U8s, U8]
  refine ⟨by simpa using Blk.new (w.alloc _) 78 #[.slice (some ⟨w.heap.size, 0, none⟩) n n, .int .i64 0], ?_, by simp; omega, by simp; omega, by simpa using H8.out⟩
  rw [hm]
  have h := (World.ownsRow_lit (base := 0) (e := 5) (size := 1) w (U8s (List.replicate n 0)).toArray n (by omega) (by unfold maxLen; omega) (by simp [length_U8s])).alloc (.cells #[.slice (some ⟨w.heap.size, 0, none⟩) n n, .int .i64 0] 78)
  simpa using h

/-- The state of an arena, kept where only other blocks turn. -/
theorem Ar.only {w w' : World} {g gb cap : Nat} {bs : List UInt8} {c : Int} {S : List Nat} (h : Ar w g gb cap bs c) (ho : Only S w w') (h1 : g ∉ S) (h2 : gb ∉ S) : Ar w' g gb cap bs c :=
  ⟨h.hdr.only ho h1, own_only h.row ho (fun x hx => by simp [Value.ownBlock] at hx; subst hx; exact h2), h.pos, h.max, h.d8⟩
theorem Ar.ne {w : World} {g gb cap : Nat} {bs : List UInt8} {c : Int} (h : Ar w g gb cap bs c) : gb ≠ g := fun e => own_blk_ne h.row h.hdr (by decide) (by simp [Value.ownBlock, e])
theorem Ar.cell {w : World} {g gb cap : Nat} {bs : List UInt8} {c : Int} (h : Ar w g gb cap bs c) (i : Nat) (hi : i < bs.length) : w.cell? ⟨gb, i, none⟩ = some (U8 (bs.getD i 0)) := by
  rw [h.row.cellAt i (by omega), U8s_get, List.getD_eq_getElem?_getD, List.getElem?_eq_getElem hi]; rfl
theorem Ar.lt {w : World} {g gb cap : Nat} {bs : List UInt8} {c : Int} (h : Ar w g gb cap bs c) : gb < w.heap.size := (h.row.lt gb (by simp [Value.ownBlock])).2
theorem Ar.le {w : World} {g gb cap : Nat} {bs : List UInt8} {c : Int} (h : Ar w g gb cap bs c) : bs.length ≤ cap ∧ cap ≤ maxLen := by
  rcases h.row.2 with ⟨h', _⟩ | ⟨g', cap', cur, h', _, _, hn, hm, _⟩
  · simp at h'
  · simp only [Value.slice.injEq] at h'; omega


theorem word1_yes (p q : Addr) (g gb n cap : Nat) (off : Int) (w : World) (hp : w.cell? p = some (.int .i64 off)) (hq : w.cell? q = some (.pointer (some ⟨g, 0, none⟩)))
    (hc : w.cell? ⟨g, 0, none⟩ = some (.slice (some ⟨gb, 0, none⟩) n cap)) (h0 : 0 ≤ off) (h1 : off < n) (h4 : off % 4 = 0) :
    Calls Tryd.prog 87 #[.pointer (some p), .pointer (some q)] w fun e w' => e = .returned (.bool true) ∧ ∃ k, w.drewN k = w' := by
  have c4 : (off % 4 == 0) = true := by simp; omega
  have d0 : decide (0 ≤ off) = true := by simp; omega
  have d1 : decide (off < n) = true := by simp; omega
  clear h4
  go_enter Tryd.func87, Tryd.ntmps87
  go_wp2
  go_quiet (fail)
  go_wp2
  go_ret
  exact ⟨rfl, _, rfl⟩

theorem word1_no (p q : Addr) (g gb n cap : Nat) (off : Int) (w : World) (hp : w.cell? p = some (.int .i64 off)) (hq : w.cell? q = some (.pointer (some ⟨g, 0, none⟩)))
    (hc : w.cell? ⟨g, 0, none⟩ = some (.slice (some ⟨gb, 0, none⟩) n cap)) (h : ¬ (0 ≤ off ∧ off < n ∧ off % 4 = 0)) (hlo : -9223372036854775808 ≤ off) :
    Calls Tryd.prog 87 #[.pointer (some p), .pointer (some q)] w fun e w' => e = .returned (.bool false) ∧ ∃ k, w.drewN k = w' := by
  by_cases h0 : 0 ≤ off
  · have d0 : decide (0 ≤ off) = true := by simp; omega
    by_cases h1 : off < n
    · have d1 : decide (off < n) = true := by simp; omega
      have c4 : (off % 4 == 0) = false := by simp; omega
      clear h
      go_enter Tryd.func87, Tryd.ntmps87
      go_wp2
      go_quiet (fail)
      go_wp2
      go_ret
      exact ⟨rfl, _, rfl⟩
    · have d1 : decide (off < n) = false := by simp; omega
      clear h
      go_enter Tryd.func87, Tryd.ntmps87
      go_wp2
      go_quiet (fail)
      go_wp2
      go_ret
      exact ⟨rfl, _, rfl⟩
  · have d0 : decide (0 ≤ off) = false := by simp; omega
    clear h
    go_enter Tryd.func87, Tryd.ntmps87
    go_wp2
    go_quiet (fail)
    go_wp2
    go_ret
    exact ⟨rfl, _, rfl⟩


theorem word_any (x : Value) (off : Int) (w : World) (g : Nat) (hx : x = .pointer (some ⟨g, 0, none⟩)) :
    Calls Tryd.prog 73 #[x, .int .i64 off] w fun e w' => e = .returned (.func (.func 87) #[] #[.pointer (some ⟨w.heap.size + 1, 0, none⟩), .pointer (some ⟨w.heap.size, 0, none⟩)]) ∧
      (w.alloc (.cells #[.pointer (some ⟨g, 0, none⟩)] 51)).alloc (.cells #[.int .i64 off] 3) = w' := by
  subst hx
  go_enter Tryd.func73, Tryd.ntmps73
  go_wp2
  go_ret
  exact ⟨rfl, rfl⟩

theorem ask_yes (p q : Addr) (g gb n cap : Nat) (off : Int) (w : World) (hp : w.cell? p = some (.int .i64 off)) (hq : w.cell? q = some (.pointer (some ⟨g, 0, none⟩)))
    (hc : w.cell? ⟨g, 0, none⟩ = some (.slice (some ⟨gb, 0, none⟩) n cap)) (h0 : 0 ≤ off) (h1 : off < n) (h4 : off % 4 = 0) :
    Calls Tryd.prog 72 #[.pointer (some ⟨g, 0, none⟩), .func (.func 87) #[] #[.pointer (some p), .pointer (some q)]] w fun e w' => e = .returned (.int .i64 0) ∧ ∃ k, w.drewN k = w' := by
  have H4 := Lib.hid h4
  clear h4
  have hn : 0 < n := by omega
  go_enter Tryd.func72, Tryd.ntmps72
  go_wp2_with (first | (go_at_call 87; refine (word1_yes _ _ g gb n cap off _ hp hq hc h0 h1 H4.out).mono ?_; rintro e w' ⟨rfl, k, rfl⟩) | go_in)
  go_ret
  exact ⟨rfl, _, rfl⟩

theorem ask_no (p q : Addr) (g gb n cap : Nat) (off : Int) (w : World) (hp : w.cell? p = some (.int .i64 off)) (hq : w.cell? q = some (.pointer (some ⟨g, 0, none⟩)))
    (hc : w.cell? ⟨g, 0, none⟩ = some (.slice (some ⟨gb, 0, none⟩) n cap)) (hn : 0 < n) (h : ¬ (0 ≤ off ∧ off < n ∧ off % 4 = 0)) (hlo : -9223372036854775808 ≤ off) :
    Calls Tryd.prog 72 #[.pointer (some ⟨g, 0, none⟩), .func (.func 87) #[] #[.pointer (some p), .pointer (some q)]] w fun e w' => e = .returned (.int .i64 2) ∧ ∃ k, w.drewN k = w' := by
  have H4 := Lib.hid h
  clear h
  go_enter Tryd.func72, Tryd.ntmps72
  go_wp2_with (first | (go_at_call 87; refine (word1_no _ _ g gb n cap off _ hp hq hc H4.out hlo).mono ?_; rintro e w' ⟨rfl, k, rfl⟩) | go_in)
  go_ret
  exact ⟨rfl, _, rfl⟩

theorem ask_nil (f : Value) (w : World) :
    Calls Tryd.prog 72 #[.pointer none, f] w fun e w' => e = .returned (.int .i64 1) ∧ w = w' := by
  go_enter Tryd.func72, Tryd.ntmps72
  go_wp2
  go_ret
  exact ⟨rfl, rfl⟩


def part (x0 x1 x2 x3 : Nat) : Nat → Nat
  | 0 => 0
  | 1 => x0
  | 2 => x0 + 256 * x1
  | 3 => x0 + 256 * x1 + 65536 * x2
  | _ => x0 + 256 * x1 + 65536 * x2 + 16777216 * x3

theorem or_join (a b i : Nat) (ha : a < 2 ^ i) (hA : a < 4294967296) (hB : b * 2 ^ i < 4294967296) : bits .or .u32 (a : Int) ((b * 2 ^ i : Nat) : Int) = ((a + b * 2 ^ i : Nat) : Int) := by
  rw [u32_or_nat _ _ hA hB, Nat.or_comm, nat_join i (b * 2 ^ i) a (Nat.mul_mod_left b (2 ^ i)) ha, Nat.add_comm]
theorem part_skip0 (x0 x1 x2 x3 : Nat) (h : ((x0 : Int) == 0) = true) : Value.int .u32 (part x0 x1 x2 x3 0) = .int .u32 (part x0 x1 x2 x3 1) := by
  have : x0 = 0 := by simpa using h
  simp [part, this]
theorem part_skip1 (x0 x1 x2 x3 : Nat) (h : ((x1 : Int) == 0) = true) : Value.int .u32 (part x0 x1 x2 x3 1) = .int .u32 (part x0 x1 x2 x3 2) := by
  have : x1 = 0 := by simpa using h
  simp [part, this]
theorem part_skip2 (x0 x1 x2 x3 : Nat) (h : ((x2 : Int) == 0) = true) : Value.int .u32 (part x0 x1 x2 x3 2) = .int .u32 (part x0 x1 x2 x3 3) := by
  have : x2 = 0 := by simpa using h
  simp [part, this]
theorem part_skip3 (x0 x1 x2 x3 : Nat) (h : ((x3 : Int) == 0) = true) : Value.int .u32 (part x0 x1 x2 x3 3) = .int .u32 (part x0 x1 x2 x3 4) := by
  have : x3 = 0 := by simpa using h
  simp [part, this]
theorem part_or0 (x0 x1 x2 x3 : Nat) (l0 : x0 < 256) (l1 : x1 < 256) (l2 : x2 < 256) (l3 : x3 < 256) : Value.int .u32 (bits .or .u32 (part x0 x1 x2 x3 0) (x0 : Int)) = .int .u32 (part x0 x1 x2 x3 1) := by
  have h := or_join 0 x0 0 (by omega) (by omega) (by omega)
  simp only [part] at *
  simpa using h
theorem part_or1 (x0 x1 x2 x3 : Nat) (l0 : x0 < 256) (l1 : x1 < 256) (l2 : x2 < 256) (l3 : x3 < 256) : Value.int .u32 (bits .or .u32 (part x0 x1 x2 x3 1) ((x1 : Int) * 256)) = .int .u32 (part x0 x1 x2 x3 2) := by
  have h := or_join x0 x1 8 (by omega) (by omega) (by omega)
  rw [show ((x1 : Int) * 256) = ((x1 * 2 ^ 8 : Nat) : Int) from by omega]
  simp only [part]
  rw [h, show x0 + x1 * 2 ^ 8 = x0 + 256 * x1 from by omega]
theorem part_or2 (x0 x1 x2 x3 : Nat) (l0 : x0 < 256) (l1 : x1 < 256) (l2 : x2 < 256) (l3 : x3 < 256) : Value.int .u32 (bits .or .u32 (part x0 x1 x2 x3 2) ((x2 : Int) * 65536)) = .int .u32 (part x0 x1 x2 x3 3) := by
  have h := or_join (x0 + 256 * x1) x2 16 (by omega) (by omega) (by omega)
  rw [show ((x2 : Int) * 65536) = ((x2 * 2 ^ 16 : Nat) : Int) from by omega]
  simp only [part]
  rw [h, show x0 + 256 * x1 + x2 * 2 ^ 16 = x0 + 256 * x1 + 65536 * x2 from by omega]
theorem part_or3 (x0 x1 x2 x3 : Nat) (l0 : x0 < 256) (l1 : x1 < 256) (l2 : x2 < 256) (l3 : x3 < 256) : Value.int .u32 (bits .or .u32 (part x0 x1 x2 x3 3) ((x3 : Int) * 16777216)) = .int .u32 (part x0 x1 x2 x3 4) := by
  have h := or_join (x0 + 256 * x1 + 65536 * x2) x3 24 (by omega) (by omega) (by omega)
  rw [show ((x3 : Int) * 16777216) = ((x3 * 2 ^ 24 : Nat) : Int) from by omega]
  simp only [part]
  rw [h, show x0 + 256 * x1 + 65536 * x2 + x3 * 2 ^ 24 = x0 + 256 * x1 + 65536 * x2 + 16777216 * x3 from by omega]

set_option maxHeartbeats 400000 in
theorem get_core (g gb cap n : Nat) (c : Int) (off : Nat) (x0 x1 x2 x3 : Nat) (w : World) (k0 : w.cell? ⟨g, 0, none⟩ = some (.slice (some ⟨gb, 0, none⟩) n cap)) (k1 : w.cell? ⟨g, 1, none⟩ = some (.int .i64 c)) (f1 : w.frozen? ⟨g, 1, none⟩ = false)
    (hg : g < w.heap.size) (hgb : gb < w.heap.size) (hne : gb ≠ g) (hfit : off + 4 ≤ n) (hcap : n ≤ cap) (hm : cap ≤ 9223372036854775807) (h4 : off % 4 = 0)
    (b0 : w.cell? ⟨gb, off, none⟩ = some (.int .u8 x0)) (b1 : w.cell? ⟨gb, off + 1, none⟩ = some (.int .u8 x1)) (b2 : w.cell? ⟨gb, off + 2, none⟩ = some (.int .u8 x2)) (b3 : w.cell? ⟨gb, off + 3, none⟩ = some (.int .u8 x3))
    (l0 : x0 < 256) (l1 : x1 < 256) (l2 : x2 < 256) (l3 : x3 < 256) :
    Calls Tryd.prog 38 #[.pointer (some ⟨g, 0, none⟩), .int .i64 off] w fun e w' => e = .returned (.tuple #[.int .u32 (part x0 x1 x2 x3 4), .int .i64 0]) ∧
      ∃ k c', (((w.alloc (.cells #[.pointer (some ⟨g, 0, none⟩)] 51)).alloc (.cells #[.int .i64 off] 3)).drewN k).setCell ⟨g, 1, none⟩ (.int .i64 c') = w' := by
  have harr : ∀ W, (Instr.arrayAt 97 (.slice (some ⟨gb, off, none⟩) (n - off) (cap - off))).run Tryd.prog W = .ok (.pointer (some ⟨gb, off, none⟩)) W := fun W =>
    run_arrayAt W _ 5 4 _ _ _ Tryd.underlying97 (by omega)
  have H4 := Lib.hid h4
  clear h4
  go_enter Tryd.func38, Tryd.ntmps38
  go_wp2_with fail
  go_step3
  go_wp2_with (first
    | (go_at_call 73; refine (word_any _ _ _ g rfl).mono ?_; rintro e w' ⟨rfl, rfl⟩)
    | (go_at_call 72; refine (ask_yes _ _ g gb n cap off _ (by simp [go_sem]) (by simp [go_sem]) (by simp [go_sem, k0, hg]) (by omega) (by omega) (by have := H4.out; omega)).mono ?_; rintro e w' ⟨rfl, k, rfl⟩))
  go_step3
  go_wp2_with fail
  clear harr b0 b1 b2 b3 k0 k1 f1
  have i0 : ∀ W, (Instr.index 97 (.agg #[.int .u8 x0, .int .u8 x1, .int .u8 x2, .int .u8 x3]) (.int .i64 0)).run Tryd.prog W = .ok (.int .u8 x0) W := fun _ => by kernel_rfl
  have i1 : ∀ W, (Instr.index 97 (.agg #[.int .u8 x0, .int .u8 x1, .int .u8 x2, .int .u8 x3]) (.int .i64 1)).run Tryd.prog W = .ok (.int .u8 x1) W := fun _ => by kernel_rfl
  have i2 : ∀ W, (Instr.index 97 (.agg #[.int .u8 x0, .int .u8 x1, .int .u8 x2, .int .u8 x3]) (.int .i64 2)).run Tryd.prog W = .ok (.int .u8 x2) W := fun _ => by kernel_rfl
  have i3 : ∀ W, (Instr.index 97 (.agg #[.int .u8 x0, .int .u8 x1, .int .u8 x2, .int .u8 x3]) (.int .i64 3)).run Tryd.prog W = .ok (.int .u8 x3) W := fun _ => by kernel_rfl
  go_loop [7, 33] (fun t i => ∃ j : Nat, j ≤ 4 ∧ i = .int .i64 j ∧ t = .int .u32 (part x0 x1 x2 x3 j)) (fun _ i => 4 - (intOf i).toNat)
  case atStart => exact ⟨0, by omega, rfl, rfl⟩
  case round =>
    obtain ⟨j, hj, rfl, rfl⟩ := hrel
    match j, hj with
    | 0, _ =>
      go_wp2
      · rename_i hx; exact ⟨⟨1, by omega, rfl, part_skip0 x0 x1 x2 x3 hx⟩, by simp [intOf]⟩
      · exact ⟨⟨1, by omega, rfl, part_or0 x0 x1 x2 x3 l0 l1 l2 l3⟩, by simp [intOf]⟩
    | 1, _ =>
      go_wp2
      · rename_i hx; exact ⟨⟨2, by omega, rfl, part_skip1 x0 x1 x2 x3 hx⟩, by simp [intOf]⟩
      · exact ⟨⟨2, by omega, rfl, part_or1 x0 x1 x2 x3 l0 l1 l2 l3⟩, by simp [intOf]⟩
    | 2, _ =>
      go_wp2
      · rename_i hx; exact ⟨⟨3, by omega, rfl, part_skip2 x0 x1 x2 x3 hx⟩, by simp [intOf]⟩
      · exact ⟨⟨3, by omega, rfl, part_or2 x0 x1 x2 x3 l0 l1 l2 l3⟩, by simp [intOf]⟩
    | 3, _ =>
      go_wp2
      · rename_i hx; exact ⟨⟨4, by omega, rfl, part_skip3 x0 x1 x2 x3 hx⟩, by simp [intOf]⟩
      · exact ⟨⟨4, by omega, rfl, part_or3 x0 x1 x2 x3 l0 l1 l2 l3⟩, by simp [intOf]⟩
    | 4, _ =>
      go_wp2
      go_ret2
      exact ⟨rfl, k, _, rfl⟩

/-- The word at an offset. -/
def word (bs : List UInt8) (off : Nat) : Nat := part (bs.getD off 0).toNat (bs.getD (off + 1) 0).toNat (bs.getD (off + 2) 0).toNat (bs.getD (off + 3) 0).toNat 4

theorem Ar.bump {w : World} {g gb cap : Nat} {bs : List UInt8} {c c' : Int} (h : Ar w g gb cap bs c) : Ar (w.setCell ⟨g, 1, none⟩ (.int .i64 c')) g gb cap bs c' :=
  ⟨by simpa using h.hdr.set_ 1 (.int .i64 c'), ownsRow_setCell_other h.row (by simp [Value.ownBlock]; exact h.ne) _, h.pos, h.max, h.d8⟩

theorem get_good (g gb cap : Nat) (bs : List UInt8) (c : Int) (off : Nat) (w : World) (h : Ar w g gb cap bs c) (ho : off < bs.length) (h4 : off % 4 = 0) :
    Calls Tryd.prog 38 #[.pointer (some ⟨g, 0, none⟩), .int .i64 off] w fun e w' => e = .returned (.tuple #[.int .u32 (word bs off), .int .i64 0]) ∧ Only [g] w w' ∧ ∃ c', Ar w' g gb cap bs c' := by
  have hd8 := h.d8
  have hle := h.le
  unfold maxLen at hle
  refine (get_core g gb cap bs.length c off _ _ _ _ w (by simpa using h.hdr.cell 0) (by simpa using h.hdr.cell 1) (h.hdr.frozen 1) h.hdr.lt h.lt h.ne (by omega) hle.1 (by omega) h4
    (h.cell off ho) (h.cell (off + 1) (by omega)) (h.cell (off + 2) (by omega)) (h.cell (off + 3) (by omega)) (UInt8.toNat_lt _) (UInt8.toNat_lt _) (UInt8.toNat_lt _) (UInt8.toNat_lt _)).mono ?_
  rintro e w' ⟨rfl, k, c', rfl⟩
  have hO : Only [g] w (((w.alloc (.cells #[.pointer (some ⟨g, 0, none⟩)] 51)).alloc (.cells #[.int .i64 off] 3)).drewN k) := (((Only.refl _ _).alloc _).alloc _).drewN k
  refine ⟨rfl, hO.setCell (.inl (by simp)) _, c', ?_⟩
  exact (h.only ((((Only.refl [] _).alloc _).alloc _).drewN k) (by simp) (by simp)).bump
end Go.Proofs.YthlaoanfoimkfaaDoor
