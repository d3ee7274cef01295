/- ArenaWords: at every size, every two offsets and every two words the law returns true, and its arguments read as before. No condition. -/
import Derived.Test.YtdlmgijbejkgaaaAr8
import Derived.Test.YtdlmgijbejkgaaaRows
import Derived.Test.YtdlmgijbejkgaaaOpen
import Derived.ProofKit
import Derived.OpenShut
import Derived.ChangeOld
namespace Go.Proofs.Ytdlmgijbejkgaaa.arenaWords
open Go.ChangeShapes Go.WideShapes Go.ChangeAt Go.RowKit
set_option linter.unusedVariables false
set_option linter.unusedSimpArgs false

/-! ### The plain law -/
theorem getD_splice_lt (bs cs : List UInt8) (off i : Nat) (h : i < off) (hf : off ≤ bs.length) : (splice bs off cs).getD i 0 = bs.getD i 0 := by
  simp only [splice, List.getD_eq_getElem?_getD]
  rw [List.getElem?_append_left (by simp; omega), List.getElem?_take, if_pos h]
theorem getD_splice_in (bs cs : List UInt8) (off i : Nat) (h : i < cs.length) (hf : off ≤ bs.length) : (splice bs off cs).getD (off + i) 0 = cs.getD i 0 := by
  simp only [splice, List.getD_eq_getElem?_getD]
  rw [List.getElem?_append_right (by simp; omega), List.getElem?_append_left (by simp; omega)]
  congr 2
  simp; omega
theorem getD_splice_ge (bs cs : List UInt8) (off i : Nat) (h : off + cs.length ≤ i) (hf : off + cs.length ≤ bs.length) : (splice bs off cs).getD i 0 = bs.getD i 0 := by
  simp only [splice, List.getD_eq_getElem?_getD]
  rw [List.getElem?_append_right (by simp; omega), List.getElem?_append_right (by simp; omega), List.getElem?_drop]
  congr 2
  simp; omega
theorem part_four (v : Nat) (hv : v < 4294967296) : part (UInt8.ofNat v).toNat (UInt8.ofNat (v / 256)).toNat (UInt8.ofNat (v / 65536)).toNat (UInt8.ofNat (v / 16777216)).toNat 4 = v := by
  simp only [part, UInt8.toNat_ofNat']
  omega
theorem word_same (bs : List UInt8) (off v : Nat) (hf : off + 4 ≤ bs.length) (hv : v < 4294967296) : word (splice bs off (four v)) off = v := by
  have h0 := getD_splice_in bs (four v) off 0 (by simp [four]) (by omega)
  have h1 := getD_splice_in bs (four v) off 1 (by simp [four]) (by omega)
  have h2 := getD_splice_in bs (four v) off 2 (by simp [four]) (by omega)
  have h3 := getD_splice_in bs (four v) off 3 (by simp [four]) (by omega)
  unfold word
  rw [h1, h2, h3, show (splice bs off (four v)).getD off 0 = (four v).getD 0 0 from h0]
  exact part_four v hv
theorem word_other (bs : List UInt8) (off off' v : Nat) (hf : off + 4 ≤ bs.length) (h4 : off % 4 = 0) (h4' : off' % 4 = 0) (hne : off ≠ off') : word (splice bs off (four v)) off' = word bs off' := by
  have hl : (four v).length = 4 := rfl
  unfold word
  by_cases h : off' < off
  · rw [getD_splice_lt _ _ _ _ (by omega) (by omega), getD_splice_lt _ _ _ _ (by omega) (by omega), getD_splice_lt _ _ _ _ (by omega) (by omega), getD_splice_lt _ _ _ _ (by omega) (by omega)]
  · rw [getD_splice_ge _ _ _ _ (by omega) (by omega), getD_splice_ge _ _ _ _ (by omega) (by omega), getD_splice_ge _ _ _ _ (by omega) (by omega), getD_splice_ge _ _ _ _ (by omega) (by omega)]
theorem cut_same (bs cs : List UInt8) (off : Nat) (hf : off + cs.length ≤ bs.length) : ((splice bs off cs).drop off).take cs.length = cs := by
  unfold splice
  rw [List.drop_append, List.drop_eq_nil_of_le (by simp; omega), List.nil_append]
  have : off - (bs.take off).length = 0 := by simp; omega
  rw [this, List.drop_zero, List.take_append_of_le_length (Nat.le_refl _), List.take_length]

/-! ### The walk -/
theorem walk_bad (size : Int) (a0 a1 w0 w1 : Int) (w : World) (h : size < 256 ∨ 65536 < size ∨ size % 8 ≠ 0) (hs0 : -9223372036854775808 ≤ size) (hs1 : size ≤ 9223372036854775807) :
    Calls Try.prog 3 #[.int .i64 size, .agg #[.int .i64 a0, .int .i64 a1], .agg #[.int .u32 w0, .int .u32 w1]] w fun e w' => e = .returned (.bool true) ∧ Only [] w w' := by
  have H := hide h
  clear h
  go_enter Try.func3, Try.ntmps3
  go_wp2_with (first
    | (go_at_call 7; refine (known_any _).mono ?_; rintro e wa ⟨rfl, oa⟩)
    | (go_at_call 8; refine (new_bad size _ H.out hs0 hs1).mono ?_; rintro e w' ⟨rfl, rfl⟩)
    | (go_at_call 9; refine (num_any _ _).mono ?_; rintro e w' ⟨rfl, rfl⟩)
    | (go_at_call 10; refine (rnew_bad size _ H.out hs0 hs1).mono ?_; rintro e w' ⟨rfl, rfl⟩))
  go_ret
  exact ⟨rfl, (((Only.refl [] w).alloc _).alloc _).trans0 oa⟩

/-- The law's own copies of its two arrays: blocks b and b + 1. -/
structure Bx (w : World) (b : Nat) (a0 a1 w0 w1 : Int) : Prop where
  ints : Blk w b 22 #[.int .i64 a0, .int .i64 a1]
  words : Blk w (b + 1) 24 #[.int .u32 w0, .int .u32 w1]
theorem Bx.only {w w' : World} {b : Nat} {a0 a1 w0 w1 : Int} {S : List Nat} (h : Bx w b a0 a1 w0 w1) (ho : Only S w w') (h1 : b ∉ S) (h2 : b + 1 ∉ S) : Bx w' b a0 a1 w0 w1 := ⟨h.ints.only ho h1, h.words.only ho h2⟩
theorem Bx.cells {w : World} {b : Nat} {a0 a1 w0 w1 : Int} (h : Bx w b a0 a1 w0 w1) : w.cell? ⟨b, 0, none⟩ = some (.int .i64 a0) ∧ w.cell? ⟨b, 1, none⟩ = some (.int .i64 a1) ∧ w.cell? ⟨b + 1, 0, none⟩ = some (.int .u32 w0) ∧ w.cell? ⟨b + 1, 1, none⟩ = some (.int .u32 w1) :=
  ⟨by simpa using h.ints.cell 0, by simpa using h.ints.cell 1, by simpa using h.words.cell 0, by simpa using h.words.cell 1⟩
theorem Bx.new (w : World) (a0 a1 w0 w1 : Int) : Bx ((w.alloc (.cells #[.int .i64 a0, .int .i64 a1] 22)).alloc (.cells #[.int .u32 w0, .int .u32 w1] 24)) w.heap.size a0 a1 w0 w1 :=
  ⟨(Blk.new _ _ _).alloc _, by simpa using Blk.new (w.alloc (.cells #[.int .i64 a0, .int .i64 a1] 22)) 24 #[.int .u32 w0, .int .u32 w1]⟩

theorem walk_bad0 (n : Nat) (a0 a1 w0 w1 : Int) (w : World) (h0 : 256 ≤ n) (h1 : n ≤ 65536) (h8 : n % 8 = 0) (h : ¬ (0 ≤ a0 ∧ a0 < n ∧ a0 % 4 = 0)) (hlo : -9223372036854775808 ≤ a0) :
    Calls Try.prog 3 #[.int .i64 n, .agg #[.int .i64 a0, .int .i64 a1], .agg #[.int .u32 w0, .int .u32 w1]] w fun e w' => e = .returned (.bool true) ∧ Only [] w w' := by
  have H := hide h
  have H8 := hide h8
  clear h h8
  have hx := Bx.new w a0 a1 w0 w1
  go_enter Try.func3, Try.ntmps3
  go_wp2_with fail
  refine (known_any _).mono ?_
  rintro e wa ⟨rfl, oa⟩
  have hx := hx.only oa (by simp) (by simp)
  go_wp2_with fail
  refine (new_good n _ h0 h1 H8.out).mono ?_
  rintro e wb ⟨rfl, ob, hb⟩
  have hx := hx.only ob (by simp) (by simp)
  obtain ⟨q0, q1, q2, q3⟩ := hx.cells
  go_wp2_with (first
    | (go_at_call 9; refine (num_any _ _).mono ?_; rintro e w' ⟨rfl, rfl⟩)
    | (go_at_call 11; refine (set_bad _ _ _ _ _ a0 _ _ hb (by rw [List.length_replicate]; exact H.out) hlo).mono ?_; rintro e wc ⟨rfl, oc⟩))
  go_ret
  exact ⟨rfl, ((((((Only.refl [] w).alloc _).alloc _).trans0 oa).trans0 ob).trans0 oc)⟩

theorem walk_bad1 (n o0 v0 : Nat) (a1 w1 : Int) (w : World) (h0 : 256 ≤ n) (h1 : n ≤ 65536) (h8 : n % 8 = 0) (l0 : o0 < n) (m0 : o0 % 4 = 0) (hv : v0 < 4294967296) (h : ¬ (0 ≤ a1 ∧ a1 < n ∧ a1 % 4 = 0)) (hlo : -9223372036854775808 ≤ a1) :
    Calls Try.prog 3 #[.int .i64 n, .agg #[.int .i64 o0, .int .i64 a1], .agg #[.int .u32 v0, .int .u32 w1]] w fun e w' => e = .returned (.bool true) ∧ Only [] w w' := by
  have H := hide h
  have H8 := hide h8
  have M0 := hide m0
  clear h h8 m0
  have hx := Bx.new w o0 a1 v0 w1
  go_enter Try.func3, Try.ntmps3
  go_wp2_with fail
  refine (known_any _).mono ?_
  rintro e wa ⟨rfl, oa⟩
  have hx := hx.only oa (by simp) (by simp)
  go_wp2_with fail
  refine (new_good n _ h0 h1 H8.out).mono ?_
  rintro e wb ⟨rfl, ob, hb⟩
  have hlt := hx.words.lt
  have hx := hx.only ob (by simp) (by simp)
  obtain ⟨q0, q1, q2, q3⟩ := hx.cells
  go_wp2_with (go_at_call 9; refine (num_any _ _).mono ?_; rintro e w' ⟨rfl, rfl⟩)
  refine (set_good _ _ _ (List.replicate n 0) _ o0 v0 _ hb (by rw [List.length_replicate]; exact l0) M0.out (by omega) (by omega) hv).mono ?_
  rintro e wc ⟨rfl, oc, hc⟩
  have hx := hx.only oc (by simp; omega) (by simp; omega)
  clear q0 q1 q2 q3
  obtain ⟨q0, q1, q2, q3⟩ := hx.cells
  have hl : (splice (List.replicate n 0) o0 (four v0)).length = n := by rw [length_splice _ _ _ (by rw [List.length_replicate]; have := H8.out; have := M0.out; simp [four]; omega), List.length_replicate]
  have HL := hide hl
  clear hl
  go_wp2_with (first
    | (go_at_call 9; refine (num_any _ _).mono ?_; rintro e w' ⟨rfl, rfl⟩)
    | (go_at_call 11; refine (set_bad _ _ _ _ _ a1 _ _ hc (by rw [HL.out]; exact H.out) hlo).mono ?_; rintro e wd ⟨rfl, od⟩))
  go_ret
  have hO : Only [wa.heap.size, wa.heap.size + 1] w wd := ((((((Only.refl _ w).alloc _).alloc _).trans0 oa).trans0 ob).trans oc (by simp)).trans0 od
  have := oa.size
  exact ⟨rfl, hO.mono (by simp at *; omega)⟩

set_option maxRecDepth 100000 in
set_option maxHeartbeats 4000000 in
theorem walk_same (n o0 v0 v1 : Nat) (w : World) (h0 : 256 ≤ n) (h1 : n ≤ 65536) (h8 : n % 8 = 0) (l0 : o0 < n) (m0 : o0 % 4 = 0) (hv0 : v0 < 4294967296) (hv1 : v1 < 4294967296) :
    Calls Try.prog 3 #[.int .i64 n, .agg #[.int .i64 o0, .int .i64 o0], .agg #[.int .u32 v0, .int .u32 v1]] w fun e w' => e = .returned (.bool true) ∧ Only [] w w' := by
  have H8 := hide h8
  have M0 := hide m0
  clear h8 m0
  have hx := Bx.new w o0 o0 v0 v1
  go_enter Try.func3, Try.ntmps3
  go_wp2_with fail
  refine (known_any _).mono ?_
  rintro e wa ⟨rfl, oa⟩
  have hx := hx.only oa (by simp) (by simp)
  go_wp2_with fail
  refine (new_good n _ h0 h1 H8.out).mono ?_
  rintro e wb ⟨rfl, ob, hb⟩
  have hlt := hx.words.lt
  have hx := hx.only ob (by simp) (by simp)
  obtain ⟨q0, q1, q2, q3⟩ := hx.cells
  go_wp2_with (go_at_call 9; refine (num_any _ _).mono ?_; rintro e w' ⟨rfl, rfl⟩)
  refine (set_good _ _ _ (List.replicate n 0) _ o0 v0 _ hb (by rw [List.length_replicate]; exact l0) M0.out (by omega) (by omega) hv0).mono ?_
  rintro e wc ⟨rfl, oc, hc⟩
  have hx := hx.only oc (by simp; omega) (by simp; omega)
  clear q0 q1 q2 q3
  obtain ⟨q0, q1, q2, q3⟩ := hx.cells
  obtain ⟨b1, hb1⟩ : ∃ b1, Hid (b1 = splice (List.replicate n 0) o0 (four v0)) := ⟨_, hide rfl⟩
  have hf0 : o0 + 4 ≤ (List.replicate n (0 : UInt8)).length := by rw [List.length_replicate]; have := H8.out; have := M0.out; omega
  have hl : b1.length = n := by rw [hb1.out, length_splice _ _ _ (by simpa [four] using hf0), List.length_replicate]
  rw [← hb1.out] at hc
  have HL := hide hl
  clear hl
  go_wp2_with (first
    | (go_at_call 9; refine (num_any _ _).mono ?_; rintro e w' ⟨rfl, rfl⟩)
    | (go_at_call 11; refine (set_good _ _ _ b1 _ o0 v1 _ hc (by rw [HL.out]; exact l0) M0.out (by omega) (by omega) hv1).mono ?_; rintro e wd ⟨rfl, od, hd⟩; have hx := hx.only od (by simp; omega) (by simp; omega); clear q0 q1 q2 q3; obtain ⟨q0, q1, q2, q3⟩ := hx.cells)
    )
  obtain ⟨b2, hb2⟩ : ∃ b2, Hid (b2 = splice b1 o0 (four v1)) := ⟨_, hide rfl⟩
  have hf1 : o0 + 4 ≤ b1.length := by rw [HL.out]; have := H8.out; have := M0.out; omega
  have hl2 : b2.length = n := by rw [hb2.out, length_splice _ _ _ (by simpa [four] using hf1), HL.out]
  rw [← hb2.out] at hd
  have HL2 := hide hl2
  clear hl2
  have e1 : word b2 o0 = v1 := by rw [hb2.out]; exact word_same b1 o0 v1 hf1 hv1
  have ec : (b2.drop o0).take 4 = four v1 := by rw [hb2.out]; exact cut_same b1 (four v1) o0 (by simpa [four] using hf1)
  have E1 := hide e1
  have EC := hide ec
  clear e1 ec
  refine (get_good _ _ _ b2 _ o0 _ hd (by rw [HL2.out]; exact l0) M0.out (by omega) (by omega)).mono ?_
  rw [E1.out]
  rintro e we ⟨rfl, oe, he⟩
  have hx := hx.only oe (by simp; omega) (by simp; omega)
  clear q0 q1 q2 q3
  obtain ⟨q0, q1, q2, q3⟩ := hx.cells
  go_wp2_with fail
  refine (get_good _ _ _ b2 _ o0 _ he (by rw [HL2.out]; exact l0) M0.out (by omega) (by omega)).mono ?_
  rw [E1.out]
  rintro e wf ⟨rfl, of_, hf⟩
  have hx := hx.only of_ (by simp; omega) (by simp; omega)
  clear q0 q1 q2 q3
  obtain ⟨q0, q1, q2, q3⟩ := hx.cells
  go_wp2_with fail
  refine (read_good _ _ _ b2 _ o0 4 _ hf (by rw [HL2.out]; have := H8.out; have := M0.out; omega)).mono ?_
  rw [EC.out]
  rintro e wg ⟨⟨g1, cap1, rfl, hv⟩, og⟩
  have hx := hx.only og (by simp) (by simp)
  have hg := hf.only og (by simp) (by simp)
  clear q0 q1 q2 q3
  obtain ⟨q0, q1, q2, q3⟩ := hx.cells
  have z2 := hx.words.frozen 0
  obtain ⟨y0, y1, y2, y3, hy, l0', l1', l2', l3', hf4⟩ : ∃ y0 y1 y2 y3 : Nat, part y0 y1 y2 y3 4 = v1 ∧ y0 < 256 ∧ y1 < 256 ∧ y2 < 256 ∧ y3 < 256 ∧ U8s (four v1) = [.int .u8 y0, .int .u8 y1, .int .u8 y2, .int .u8 y3] :=
    ⟨_, _, _, _, part_four v1 hv1, UInt8.toNat_lt _, UInt8.toNat_lt _, UInt8.toNat_lt _, UInt8.toNat_lt _, rfl⟩
  rw [hf4] at hv
  have x0 : wg.cell? ⟨g1, 0, none⟩ = some (.int .u8 y0) := hv.cellAt 0 (by omega)
  have x1 : wg.cell? ⟨g1, 1, none⟩ = some (.int .u8 y1) := hv.cellAt 1 (by omega)
  have x2 : wg.cell? ⟨g1, 2, none⟩ = some (.int .u8 y2) := hv.cellAt 2 (by omega)
  have x3 : wg.cell? ⟨g1, 3, none⟩ = some (.int .u8 y3) := hv.cellAt 3 (by omega)
  have hg1 : g1 ≠ w.heap.size + 1 := by
    have h1 := (hv.lt g1 rfl).1
    have h2 := hf.hdr.lt
    have h3 := oa.size
    simp at h3
    omega
  have m1' : (y1 : Int) < 256 := by omega
  have m2' : (y2 : Int) < 256 := by omega
  have m3' : (y3 : Int) < 256 := by omega
  have hor : bits .or .u32 (bits .or .u32 (bits .or .u32 (y0 : Int) ((y1 : Int) * 256)) ((y2 : Int) * 65536)) ((y3 : Int) * 16777216) = (v1 : Int) := by
    have e1 := part_or1 y0 y1 y2 y3 l0' l1' l2' l3'
    have e2 := part_or2 y0 y1 y2 y3 l0' l1' l2' l3'
    have e3 := part_or3 y0 y1 y2 y3 l0' l1' l2' l3'
    injection e1 with _ e1
    injection e2 with _ e2
    injection e3 with _ e3
    rw [show ((y0 : Nat) : Int) = ((part y0 y1 y2 y3 1 : Nat) : Int) from rfl, e1, e2, e3, hy]
  clear hf4 hv hy
  go_wp2_with fail
  go_quiet ((go_at_call 9; exact quiet_left (num_any _ _)))
  go_wp2_with (go_at_call 14; refine (cost_any _ _ _ b2 _ _ (by exact hg.only (((Only.refl [w.heap.size + 1] _).setCell (.inl (by simp)) _).drewN _) (by simp; omega) (by simp; omega))).mono ?_; rintro e w' ⟨rfl, rfl⟩)
  go_ret
  have hO : Only [wa.heap.size, wa.heap.size + 1, w.heap.size + 1] w wg := ((((((((Only.refl _ w).alloc _).alloc _).trans0 oa).trans0 ob).trans oc (by simp)).trans od (by simp)).trans oe (by simp) |>.trans of_ (by simp)).trans0 og
  have := oa.size
  exact ⟨rfl, ((hO.setCell (.inl (by simp)) _).drewN _).mono (by simp at *; omega)⟩

set_option maxRecDepth 100000 in
set_option maxHeartbeats 4000000 in
theorem walk_diff (n o0 o1 v0 v1 : Nat) (w : World) (h0 : 256 ≤ n) (h1 : n ≤ 65536) (h8 : n % 8 = 0) (l0 : o0 < n) (m0 : o0 % 4 = 0) (hv0 : v0 < 4294967296) (l1 : o1 < n) (m1 : o1 % 4 = 0) (hv1 : v1 < 4294967296) (hne : o0 ≠ o1) :
    Calls Try.prog 3 #[.int .i64 n, .agg #[.int .i64 o0, .int .i64 o1], .agg #[.int .u32 v0, .int .u32 v1]] w fun e w' => e = .returned (.bool true) ∧ Only [] w w' := by
  have hneq : ((o0 : Int) == (o1 : Int)) = false := by simp; omega
  have HNE := hide hne
  clear hne
  have H8 := hide h8
  have M0 := hide m0
  have M1 := hide m1
  clear h8 m0 m1
  have hx := Bx.new w o0 o1 v0 v1
  go_enter Try.func3, Try.ntmps3
  go_wp2_with fail
  refine (known_any _).mono ?_
  rintro e wa ⟨rfl, oa⟩
  have hx := hx.only oa (by simp) (by simp)
  go_wp2_with fail
  refine (new_good n _ h0 h1 H8.out).mono ?_
  rintro e wb ⟨rfl, ob, hb⟩
  have hlt := hx.words.lt
  have hx := hx.only ob (by simp) (by simp)
  obtain ⟨q0, q1, q2, q3⟩ := hx.cells
  go_wp2_with (go_at_call 9; refine (num_any _ _).mono ?_; rintro e w' ⟨rfl, rfl⟩)
  refine (set_good _ _ _ (List.replicate n 0) _ o0 v0 _ hb (by rw [List.length_replicate]; exact l0) M0.out (by omega) (by omega) hv0).mono ?_
  rintro e wc ⟨rfl, oc, hc⟩
  have hx := hx.only oc (by simp; omega) (by simp; omega)
  clear q0 q1 q2 q3
  obtain ⟨q0, q1, q2, q3⟩ := hx.cells
  obtain ⟨b1, hb1⟩ : ∃ b1, Hid (b1 = splice (List.replicate n 0) o0 (four v0)) := ⟨_, hide rfl⟩
  have hf0 : o0 + 4 ≤ (List.replicate n (0 : UInt8)).length := by rw [List.length_replicate]; have := H8.out; have := M0.out; omega
  have hl : b1.length = n := by rw [hb1.out, length_splice _ _ _ (by simpa [four] using hf0), List.length_replicate]
  rw [← hb1.out] at hc
  have HL := hide hl
  clear hl
  go_wp2_with (first
    | (go_at_call 9; refine (num_any _ _).mono ?_; rintro e w' ⟨rfl, rfl⟩)
    | (go_at_call 11; refine (set_good _ _ _ b1 _ o1 v1 _ hc (by rw [HL.out]; exact l1) M1.out (by omega) (by omega) hv1).mono ?_; rintro e wd ⟨rfl, od, hd⟩; have hx := hx.only od (by simp; omega) (by simp; omega); clear q0 q1 q2 q3; obtain ⟨q0, q1, q2, q3⟩ := hx.cells)
    )
  obtain ⟨b2, hb2⟩ : ∃ b2, Hid (b2 = splice b1 o1 (four v1)) := ⟨_, hide rfl⟩
  have hf1 : o1 + 4 ≤ b1.length := by rw [HL.out]; have := H8.out; have := M1.out; omega
  have hl2 : b2.length = n := by rw [hb2.out, length_splice _ _ _ (by simpa [four] using hf1), HL.out]
  rw [← hb2.out] at hd
  have HL2 := hide hl2
  clear hl2
  have e1 : word b2 o1 = v1 := by rw [hb2.out]; exact word_same b1 o1 v1 hf1 hv1
  have e0 : word b2 o0 = v0 := by
    rw [hb2.out, word_other b1 o1 o0 v1 hf1 M1.out M0.out (Ne.symm HNE.out), hb1.out]
    exact word_same _ o0 v0 hf0 hv0
  have ec : (b2.drop o1).take 4 = four v1 := by rw [hb2.out]; exact cut_same b1 (four v1) o1 (by simpa [four] using hf1)
  have E0 := hide e0
  have E1 := hide e1
  have EC := hide ec
  clear e0 e1 ec
  refine (get_good _ _ _ b2 _ o0 _ hd (by rw [HL2.out]; exact l0) M0.out (by omega) (by omega)).mono ?_
  rw [E0.out]
  rintro e we ⟨rfl, oe, he⟩
  have hx := hx.only oe (by simp; omega) (by simp; omega)
  clear q0 q1 q2 q3
  obtain ⟨q0, q1, q2, q3⟩ := hx.cells
  go_wp2_with fail
  refine (get_good _ _ _ b2 _ o1 _ he (by rw [HL2.out]; exact l1) M1.out (by omega) (by omega)).mono ?_
  rw [E1.out]
  rintro e wf ⟨rfl, of_, hf⟩
  have hx := hx.only of_ (by simp; omega) (by simp; omega)
  clear q0 q1 q2 q3
  obtain ⟨q0, q1, q2, q3⟩ := hx.cells
  go_wp2_with fail
  refine (read_good _ _ _ b2 _ o1 4 _ hf (by rw [HL2.out]; have := H8.out; have := M1.out; omega)).mono ?_
  rw [EC.out]
  rintro e wg ⟨⟨g1, cap1, rfl, hv⟩, og⟩
  have hx := hx.only og (by simp) (by simp)
  have hg := hf.only og (by simp) (by simp)
  clear q0 q1 q2 q3
  obtain ⟨q0, q1, q2, q3⟩ := hx.cells
  have z2 := hx.words.frozen 0
  obtain ⟨y0, y1, y2, y3, hy, l0', l1', l2', l3', hf4⟩ : ∃ y0 y1 y2 y3 : Nat, part y0 y1 y2 y3 4 = v1 ∧ y0 < 256 ∧ y1 < 256 ∧ y2 < 256 ∧ y3 < 256 ∧ U8s (four v1) = [.int .u8 y0, .int .u8 y1, .int .u8 y2, .int .u8 y3] :=
    ⟨_, _, _, _, part_four v1 hv1, UInt8.toNat_lt _, UInt8.toNat_lt _, UInt8.toNat_lt _, UInt8.toNat_lt _, rfl⟩
  rw [hf4] at hv
  have x0 : wg.cell? ⟨g1, 0, none⟩ = some (.int .u8 y0) := hv.cellAt 0 (by omega)
  have x1 : wg.cell? ⟨g1, 1, none⟩ = some (.int .u8 y1) := hv.cellAt 1 (by omega)
  have x2 : wg.cell? ⟨g1, 2, none⟩ = some (.int .u8 y2) := hv.cellAt 2 (by omega)
  have x3 : wg.cell? ⟨g1, 3, none⟩ = some (.int .u8 y3) := hv.cellAt 3 (by omega)
  have hg1 : g1 ≠ w.heap.size + 1 := by
    have h1 := (hv.lt g1 rfl).1
    have h2 := hf.hdr.lt
    have h3 := oa.size
    simp at h3
    omega
  have m1' : (y1 : Int) < 256 := by omega
  have m2' : (y2 : Int) < 256 := by omega
  have m3' : (y3 : Int) < 256 := by omega
  have hor : bits .or .u32 (bits .or .u32 (bits .or .u32 (y0 : Int) ((y1 : Int) * 256)) ((y2 : Int) * 65536)) ((y3 : Int) * 16777216) = (v1 : Int) := by
    have e1 := part_or1 y0 y1 y2 y3 l0' l1' l2' l3'
    have e2 := part_or2 y0 y1 y2 y3 l0' l1' l2' l3'
    have e3 := part_or3 y0 y1 y2 y3 l0' l1' l2' l3'
    injection e1 with _ e1
    injection e2 with _ e2
    injection e3 with _ e3
    rw [show ((y0 : Nat) : Int) = ((part y0 y1 y2 y3 1 : Nat) : Int) from rfl, e1, e2, e3, hy]
  clear hf4 hv hy
  go_wp2_with fail
  go_quiet ((go_at_call 9; exact quiet_left (num_any _ _)))
  go_wp2_with (go_at_call 14; refine (cost_any _ _ _ b2 _ _ (by exact hg.only ((Only.refl [] _).drewN _) (by simp) (by simp))).mono ?_; rintro e w' ⟨rfl, rfl⟩)
  go_ret
  have hO : Only [wa.heap.size, wa.heap.size + 1] w wg := ((((((((Only.refl _ w).alloc _).alloc _).trans0 oa).trans0 ob).trans oc (by simp)).trans od (by simp)).trans oe (by simp) |>.trans of_ (by simp)).trans0 og
  have := oa.size
  exact ⟨rfl, (hO.drewN _).mono (by simp at *; omega)⟩

theorem walk (size a0 a1 w0 w1 : Int) (w : World) (hs : (Lit.int .i64 size).wf = true) (h0 : (Lit.int .i64 a0).wf = true) (h1 : (Lit.int .i64 a1).wf = true) (h2 : (Lit.int .u32 w0).wf = true) (h3 : (Lit.int .u32 w1).wf = true) :
    Calls Try.prog 3 #[.int .i64 size, .agg #[.int .i64 a0, .int .i64 a1], .agg #[.int .u32 w0, .int .u32 w1]] w fun e w' => e = .returned (.bool true) ∧ Only [] w w' := by
  have bs := bounds_i64 hs
  have b0 := bounds_i64 h0
  have b1 := bounds_i64 h1
  have b2 := bounds_u32 h2
  have b3 := bounds_u32 h3
  by_cases hb : size < 256 ∨ 65536 < size ∨ size % 8 ≠ 0
  · exact walk_bad size a0 a1 w0 w1 w hb (by omega) (by omega)
  · obtain ⟨n, rfl⟩ := Int.eq_ofNat_of_zero_le (show 0 ≤ size by omega)
    by_cases ha0 : 0 ≤ a0 ∧ a0 < n ∧ a0 % 4 = 0
    · obtain ⟨o0, rfl⟩ := Int.eq_ofNat_of_zero_le ha0.1
      obtain ⟨v0, rfl⟩ := Int.eq_ofNat_of_zero_le (show 0 ≤ w0 by omega)
      by_cases ha1 : 0 ≤ a1 ∧ a1 < n ∧ a1 % 4 = 0
      · obtain ⟨o1, rfl⟩ := Int.eq_ofNat_of_zero_le ha1.1
        obtain ⟨v1, rfl⟩ := Int.eq_ofNat_of_zero_le (show 0 ≤ w1 by omega)
        by_cases he : o0 = o1
        · subst he
          exact walk_same n o0 v0 v1 w (by omega) (by omega) (by omega) (by omega) (by omega) (by omega) (by omega)
        · exact walk_diff n o0 o1 v0 v1 w (by omega) (by omega) (by omega) (by omega) (by omega) (by omega) (by omega) (by omega) (by omega) he
      · exact walk_bad1 n o0 v0 a1 w1 w (by omega) (by omega) (by omega) (by omega) (by omega) (by omega) ha1 (by omega)
    · exact walk_bad0 n a0 a1 w0 w1 w (by omega) (by omega) (by omega) ha0 (by omega)

theorem own : ownKnob Try.prog.godebug = none := by kernel_rfl
theorem laidOut : laidOutB Try.prog = true := by kernel_rfl

set_option maxRecDepth 100000 in
theorem lifted (os : Os) (started : os.Started) (H : Type) (enc : TypeId × Value → H) :
    ReturnsInHanded {} Try.checked os 3 .any (Rows.arenaWordsSpec.pre6 enc Try.prog Try.f3 Rows.arenaWordsRow.domain false) (Rows.arenaWordsSpec.post enc Try.prog Try.f3 false true false false) := by
  refine returnsInHanded_of_change (C := Try.checked) own started (by kernel_rfl) Try.func3
    (ChangeSpec.witness6 (enc := enc) (C := Try.checked) false ⟨#[], #[.int .i64 0, .agg #[.int .i64 0, .int .i64 0], .agg #[.int .u32 0, .int .u32 0]], []⟩ 8 (by kernel_rfl) (by kernel_rfl) (by kernel_rfl) (by kernel_rfl)) ?_
  intro W base args ds gs before hval0 hW hcnd _
  have hval : ∀ (j : Nat) t v, Try.f3.params[j]? = some t → args[j]? = some v → Value.okWide Try.prog W .any base t v := hval0
  have hW' := hW
  obtain ⟨p, q, hA0, hV, rfl, hfz, hnd⟩ := hW
  have hA : DataW.TrodAll enc Try.prog W 0 (fun _ => true) true Try.f3.params.toList args.toList ds p := hA0
  rw [Try.params3] at hA hval
  obtain ⟨v0, vs0, d0, ds0, p0, q0, hargs, rfl, rfl, h0, r0⟩ := trodAll_cons hA
  obtain ⟨v1, vs1, d1, ds1, p1, q1, rfl, rfl, rfl, h1, r1⟩ := trodAll_cons r0
  obtain ⟨v2, vs2, d2, ds2, p2, q2, rfl, rfl, rfl, h2, r2⟩ := trodAll_cons r1
  obtain ⟨rfl, rfl, rfl⟩ := trodAll_nil r2
  obtain rfl : args = #[v0, v1, v2] := by cases args; simp_all
  obtain ⟨rfl, rfl⟩ := trodVars_none hV
  have k1 := h1
  have k2 := h2
  have lt1 : ∀ x ∈ p1, x.block < W.heap.size := by obtain ⟨m, hm⟩ := k1; exact DataW.trod_lt m _ _ _ hm
  have lt2 : ∀ x ∈ p2, x.block < W.heap.size := by obtain ⟨m, hm⟩ := k2; exact DataW.trod_lt m _ _ _ hm
  obtain ⟨a0, rfl, rfl, rfl, w0⟩ := open_int Try.underlying3 (hval 0 3 v0 rfl rfl) h0
  obtain ⟨x0, x1, rfl, e0, e1⟩ := open_arr2_int Try.underlying22 Try.underlying3 (by kernel_rfl) (by kernel_rfl) (hval 1 22 v1 rfl rfl) h1
  obtain ⟨y0, y1, rfl, f0, f1⟩ := open_arr2_int Try.underlying24 Try.underlying23 (by kernel_rfl) (by kernel_rfl) (hval 2 24 v2 rfl rfl) h2
  clear hA0 hval0
  refine (walk a0 x0 x1 y0 y1 W w0 e0 e1 f0 f1).mono fun e W' ⟨he, hg⟩ => ?_
  subst he
  have bel := hg.below
  exact ⟨_, rfl, _, _, _, [], _, [], hW', trodAll_mk1 (shut_bool Try.underlying4 _), (trodAll_cons_mk (shut_int Try.underlying3 w0) (trodAll_cons_mk (Below.trod laidOut (by kernel_rfl) (of_decide_eq_true (by kernel_rfl)) k1 bel lt1) (trodAll_cons_mk (Below.trod laidOut (by kernel_rfl) (of_decide_eq_true (by kernel_rfl)) k2 bel lt2) trodAll_mk0))), rfl, bel.frame _, fun h => by cases h⟩

theorem over : Rows.arenaWordsRow.holds Try.pinned (OpenSpec.ofChange Rows.arenaWordsSpec) :=
  OpenClaim.holds_of_wide 3 Try.f3 rfl rfl rfl rfl rfl rfl rfl ⟨rfl, rfl, rfl, rfl, rfl⟩ rfl rfl rfl rfl rfl (by kernel_rfl) Try.func3 (by kernel_rfl)
    (of_decide_eq_true (by kernel_rfl)) (by unfold Func.isWrapper; first | (rw [if_pos (by decide +kernel)]; kernel_rfl) | (rw [if_neg (by decide +kernel)]; exact ⟨rfl, rfl⟩))
    (fun os started H enc _ => lifted os started H enc)

theorem proved : Rows.ArenaWordsSaid := over
#print axioms proved
end Go.Proofs.Ytdlmgijbejkgaaa.arenaWords
