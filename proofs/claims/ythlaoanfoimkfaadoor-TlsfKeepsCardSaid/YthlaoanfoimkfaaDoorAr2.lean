/- Walks over arena: Set, Read, Write, Cost, Size, Reset, Copy, Same, and all of them refused. -/
import Derived.Test.YthlaoanfoimkfaaDoorAr1
import Derived.Deep.RegionHeld3
import Derived.Deep.DrawnRows
namespace Go.Proofs.YthlaoanfoimkfaaDoor
open Go.RowKit
set_option linter.unusedVariables false
set_option linter.unusedSimpArgs false
set_option maxRecDepth 100000

set_option maxHeartbeats 400000 in
theorem four_any (v : Nat) (y0 y1 y2 y3 : UInt8) (w : World) (hv : v < 4294967296) (h0 : Hid (y0 = UInt8.ofNat v)) (h1 : Hid (y1 = UInt8.ofNat (v / 256))) (h2 : Hid (y2 = UInt8.ofNat (v / 65536))) (h3 : Hid (y3 = UInt8.ofNat (v / 16777216))) :
    Calls Tryd.prog 86 #[.int .u32 v] w fun e w' => e = .returned (.agg #[.int .u8 y0.toNat, .int .u8 y1.toNat, .int .u8 y2.toNat, .int .u8 y3.toNat]) ∧ Only [] w w' := by
  go_enter Tryd.func86, Tryd.ntmps86
  go_wp2
  refine bodyPost_ret (v := .agg #[.int .u8 ((v : Int) % 256), .int .u8 ((v : Int) / 256 % 256), .int .u8 ((v : Int) / 65536 % 256), .int .u8 ((v : Int) / 16777216)]) (by simp [results, Tryd.results86, go_sem]) rfl ⟨?_, (Only.refl _ _).alloc _⟩
  rw [h0.out, h1.out, h2.out, h3.out]
  have e (x : Nat) : (((UInt8.ofNat x).toNat : Nat) : Int) = (x : Int) % 256 := by simp [UInt8.toNat_ofNat']
  simp only [e]
  have : ((v / 16777216 : Nat) : Int) % 256 = (v : Int) / 16777216 := by omega
  rw [this]
  rfl

/-- The four bytes of a word. -/
def four (v : Nat) : List UInt8 := [UInt8.ofNat v, UInt8.ofNat (v / 256), UInt8.ofNat (v / 65536), UInt8.ofNat (v / 16777216)]

set_option maxHeartbeats 400000 in
theorem set_core (g gb cap n : Nat) (cur : List Value) (c : Int) (off v : Nat) (y0 y1 y2 y3 : UInt8) (w : World) (hb : Blk w g 78 #[.slice (some ⟨gb, 0, none⟩) n cap, .int .i64 c]) (hr : Blk w gb 5 cur.toArray)
    (hne : gb ≠ g) (hcur : cur.length = cap) (hfit : off + 4 ≤ n) (hcap : n ≤ cap) (hm : cap ≤ 9223372036854775807) (h4 : off % 4 = 0) (hv : v < 4294967296)
    (h0 : Hid (y0 = UInt8.ofNat v)) (h1 : Hid (y1 = UInt8.ofNat (v / 256))) (h2 : Hid (y2 = UInt8.ofNat (v / 65536))) (h3 : Hid (y3 = UInt8.ofNat (v / 16777216))) :
    Calls Tryd.prog 70 #[.pointer (some ⟨g, 0, none⟩), .int .i64 off, .int .u32 v] w fun e w' => e = .returned (.int .i64 0) ∧ Only [g, gb] w w' ∧ (∃ c', Blk w' g 78 #[.slice (some ⟨gb, 0, none⟩) n cap, .int .i64 c']) ∧
      Blk w' gb 5 (splice cur off [.int .u8 y0.toNat, .int .u8 y1.toNat, .int .u8 y2.toNat, .int .u8 y3.toNat]).toArray := by
  have k0 : w.cell? ⟨g, 0, none⟩ = some (.slice (some ⟨gb, 0, none⟩) n cap) := by simpa using hb.cell 0
  have k1 : w.cell? ⟨g, 1, none⟩ = some (.int .i64 c) := by simpa using hb.cell 1
  have f1 := hb.frozen 1
  have hg := hb.lt
  have hgb := hr.lt
  have H4 := Lib.hid h4
  have hsz : (Tryd.prog.info? 5).map (·.size) = some 1 := by kernel_rfl
  have HSZ := Lib.hid hsz
  have Hcur := Lib.hid hcur
  clear h4 hsz hcur
  go_enter Tryd.func70, Tryd.ntmps70
  go_wp2_with (first
    | (go_at_call 73; refine (word_any _ _ _ g rfl).mono ?_; rintro e w' ⟨rfl, rfl⟩)
    | (go_at_call 72; refine (ask_yes _ _ g gb n cap off _ (by simp [go_sem]) (by simp [go_sem]) (by simp [go_sem, k0, hg]) (by omega) (by omega) (by have := H4.out; omega)).mono ?_; rintro e w' ⟨rfl, k, rfl⟩)
    | (go_at_call 86
       refine (four_any v y0 y1 y2 y3 _ hv h0 h1 h2 h3).mono ?_
       rintro e w1 ⟨rfl, ho1⟩
       have hO := (((((Only.refl [g] w).alloc (.cells #[.pointer (some ⟨g, 0, none⟩)] 51)).alloc (.cells #[.int .i64 off] 3)).drewN k).setCell (p := ⟨g, 1, none⟩) (.inl (by simp)) _).trans0 ho1
       have hb1 := (((((hb.alloc (.cells #[.pointer (some ⟨g, 0, none⟩)] 51)).alloc (.cells #[.int .i64 off] 3)).drewN k).set_ 1 _)).only ho1 (by simp)
       have hr1 := hr.only hO (by simpa using hne)
       clear ho1 k0 k1 f1
       have k0 : w1.cell? ⟨g, 0, none⟩ = some (.slice (some ⟨gb, 0, none⟩) n cap) := by simpa using hb1.cell 0
       have hg1 := hb1.lt
       have hgb1 := hr1.lt))
  obtain ⟨w2, hrun, hb2, ho2⟩ := run_copy_any (P := Tryd.prog) (w := (w1.alloc (.cells #[.int .u8 y0.toNat, .int .u8 y1.toNat, .int .u8 y2.toNat, .int .u8 y3.toNat] 97)).drew) 38 38 3 5 Tryd.underlying38 HSZ.out (some ⟨gb, off, none⟩) (some ⟨w1.heap.size, 0, none⟩) (n - off) (cap - off) 4 4 gb off cur 5
    (hr1.alloc _).drew [.int .u8 y0.toNat, .int .u8 y1.toNat, .int .u8 y2.toNat, .int .u8 y3.toNat] (by have : Nat.min 4 (n - off) = 4 := Nat.min_eq_left (by omega); rw [this]; rfl)
    (fun _ => ⟨rfl, _, rfl, fun j v hj => by
      have hbn := (Blk.new w1 97 #[.int .u8 y0.toNat, .int .u8 y1.toNat, .int .u8 y2.toNat, .int .u8 y3.toNat]).drew
      rw [show (⟨w1.heap.size, 0, none⟩ : Addr).add j = ⟨w1.heap.size, j, none⟩ from by unfold Addr.add; split <;> simp_all, hbn.cell j]
      simpa using hj⟩) (by rw [Hcur.out]; simp; omega) (by intro v hv; simp at hv; rcases hv with rfl | rfl | rfl | rfl <;> rfl)
  have i0 : (0 : Int) ≤ (off : Int) := by omega
  have i1 : (off : Int) ≤ (n : Int) := by omega
  have i2 : (off : Int) ≤ (cap : Int) := by omega
  have i3 : (n : Int) ≤ (cap : Int) := by omega
  have hb3 := ((hb1.alloc (.cells #[.int .u8 y0.toNat, .int .u8 y1.toNat, .int .u8 y2.toNat, .int .u8 y3.toNat] 97)).drew).only ho2 (by simpa using hne.symm)
  have k2 : w2.cell? ⟨g, 0, none⟩ = some (.slice (some ⟨gb, 0, none⟩) n cap) := by simpa using hb3.cell 0
  go_region_held3 (fun W => W.cell? ⟨g, 0, none⟩ = some (.slice (some ⟨gb, 0, none⟩) n cap)) (go_keep) (fail)
  go_wp2
  go_ret
  refine ⟨rfl, ?_, ⟨_, hb3⟩, hb2⟩
  exact ((hO.mono (by simp)).alloc _).drew.trans ho2 (by simp)

theorem set_good (g gb cap : Nat) (bs : List UInt8) (c : Int) (off v : Nat) (w : World) (h : Ar w g gb cap bs c) (ho : off < bs.length) (h4 : off % 4 = 0) (hv : v < 4294967296) :
    Calls Tryd.prog 70 #[.pointer (some ⟨g, 0, none⟩), .int .i64 off, .int .u32 v] w fun e w' => e = .returned (.int .i64 0) ∧ Only [g, gb] w w' ∧ ∃ c', Ar w' g gb cap (splice bs off (four v)) c' := by
  have hd8 := h.d8
  obtain ⟨cur, hcur, hl, ht, hn, hm, _⟩ := own_block h.row
  have hmm := hm
  unfold maxLen at hmm
  have hlen : (splice bs off (four v)).length = bs.length := length_splice _ _ _ (by simp [four]; omega)
  refine (set_core g gb cap bs.length cur c off v (UInt8.ofNat v) (UInt8.ofNat (v / 256)) (UInt8.ofNat (v / 65536)) (UInt8.ofNat (v / 16777216)) w h.hdr hcur h.ne hl (by omega) hn (by omega) h4 hv (hide rfl) (hide rfl) (hide rfl) (hide rfl)).mono ?_
  rintro e w' ⟨rfl, ho', ⟨c', hb'⟩, hr'⟩
  refine ⟨rfl, ho', c', ⟨by rw [hlen]; exact hb', ?_, by rw [hlen]; exact h.pos, by rw [hlen]; exact h.max, by rw [hlen]; exact hd8⟩⟩
  have := own_splice h.row hcur hr' (by simp; omega)
  rw [hlen]
  unfold U8s at this ⊢
  rw [splice_map]
  exact this

/-- No arena, or a zero one. -/
def Gone (w : World) (p : Option Addr) : Prop := p = none ∨ ∃ g, p = some ⟨g, 0, none⟩ ∧ Blk w g 78 #[.slice none 0 0, .int .i64 0]

theorem there_yes (g gb n cap : Nat) (w : World) (hc : w.cell? ⟨g, 0, none⟩ = some (.slice (some ⟨gb, 0, none⟩) n cap)) (hn : 0 < n) :
    Calls Tryd.prog 74 #[.pointer (some ⟨g, 0, none⟩)] w fun e w' => e = .returned (.bool true) ∧ w = w' := by
  go_enter Tryd.func74, Tryd.ntmps74
  go_wp2
  go_ret
  exact ⟨rfl, rfl⟩
theorem there_no (p : Option Addr) (w : World) (h : Gone w p) : Calls Tryd.prog 74 #[.pointer p] w fun e w' => e = .returned (.bool false) ∧ w = w' := by
  rcases h with rfl | ⟨g, rfl, hb⟩
  · go_enter Tryd.func74, Tryd.ntmps74
    go_wp2
    go_ret
    exact ⟨rfl, rfl⟩
  · have hc : w.cell? ⟨g, 0, none⟩ = some (.slice none 0 0) := by simpa using hb.cell 0
    go_enter Tryd.func74, Tryd.ntmps74
    go_wp2
    go_ret
    exact ⟨rfl, rfl⟩
theorem Gone.only {w w' : World} {p : Option Addr} (h : Gone w p) (ho : Only [] w w') : Gone w' p := by
  rcases h with rfl | ⟨g, rfl, hb⟩
  · exact .inl rfl
  · exact .inr ⟨g, rfl, hb.only ho (by simp)⟩
theorem ask_gone (p : Option Addr) (f : Value) (w : World) (h : Gone w p) : Calls Tryd.prog 72 #[.pointer p, f] w fun e w' => e = .returned (.int .i64 1) ∧ w = w' := by
  have H := Lib.hid h
  clear h
  go_enter Tryd.func72, Tryd.ntmps72
  go_wp2_with (first | (go_at_call 74; refine (there_no _ _ H.out).mono ?_; rintro e w' ⟨rfl, rfl⟩))
  go_ret
  exact ⟨rfl, rfl⟩

/-! ### what is not there -/
theorem word_gone (p : Option Addr) (off : Int) (w : World) :
    Calls Tryd.prog 73 #[.pointer p, .int .i64 off] w fun e w' => (∃ q r, e = .returned (.func (.func 87) #[] #[.pointer (some q), .pointer (some r)])) ∧ Only [] w w' := by
  go_enter Tryd.func73, Tryd.ntmps73
  go_wp2
  go_ret
  exact ⟨⟨_, _, rfl⟩, ((Only.refl _ _).alloc _).alloc _⟩
theorem get_gone (p : Option Addr) (off : Int) (w : World) (h : Gone w p) : Calls Tryd.prog 38 #[.pointer p, .int .i64 off] w fun e w' => e = .returned (.tuple #[.int .u32 0, .int .i64 1]) ∧ Only [] w w' := by
  have H := Lib.hid h
  clear h
  go_enter Tryd.func38, Tryd.ntmps38
  go_wp2_with fail
  go_step3
  go_wp2_with (first
    | (go_at_call 73; refine (word_gone _ _ _).mono ?_; rintro e w1 ⟨⟨q, r, rfl⟩, ho⟩)
    | (go_at_call 72; refine (ask_gone _ _ _ (H.out.only ho)).mono ?_; rintro e w' ⟨rfl, rfl⟩))
  rw [Exit.noGoto_ret]
  go_ret2
  exact ⟨rfl, ho⟩
theorem set_gone (p : Option Addr) (off v : Int) (w : World) (h : Gone w p) : Calls Tryd.prog 70 #[.pointer p, .int .i64 off, .int .u32 v] w fun e w' => e = .returned (.int .i64 1) ∧ Only [] w w' := by
  have H := Lib.hid h
  clear h
  go_enter Tryd.func70, Tryd.ntmps70
  go_wp2_with (first
    | (go_at_call 73; refine (word_gone _ _ _).mono ?_; rintro e w1 ⟨⟨q, r, rfl⟩, ho⟩)
    | (go_at_call 72; refine (ask_gone _ _ _ (H.out.only ho)).mono ?_; rintro e w' ⟨rfl, rfl⟩))
  go_ret
  exact ⟨rfl, ho⟩
theorem read_gone (p : Option Addr) (off n : Int) (w : World) (h : Gone w p) : Calls Tryd.prog 55 #[.pointer p, .int .i64 off, .int .i64 n] w fun e w' => e = .returned (.tuple #[.slice none 0 0, .int .i64 1]) ∧ Only [] w w' := by
  have H := Lib.hid h
  clear h
  go_enter Tryd.func55, Tryd.ntmps55
  go_wp2_with (first
    | (go_at_call 72; refine (ask_gone _ _ _ (H.out.only ((((Only.refl [] _).alloc _).alloc _).alloc _))).mono ?_; rintro e w' ⟨rfl, rfl⟩))
  go_ret2
  exact ⟨rfl, (((Only.refl [] _).alloc _).alloc _).alloc _⟩
theorem write_gone (p : Option Addr) (off : Int) (a : Option Addr) (l c : Nat) (w : World) (h : Gone w p) : Calls Tryd.prog 43 #[.pointer p, .int .i64 off, .slice a l c] w fun e w' => e = .returned (.int .i64 1) ∧ Only [] w w' := by
  have H := Lib.hid h
  clear h
  go_enter Tryd.func43, Tryd.ntmps43
  go_wp2_with (first
    | (go_at_call 72; refine (ask_gone _ _ _ (H.out.only ((((Only.refl [] _).alloc _).alloc _).alloc _))).mono ?_; rintro e w' ⟨rfl, rfl⟩))
  go_ret
  exact ⟨rfl, (((Only.refl [] _).alloc _).alloc _).alloc _⟩
theorem size_gone (p : Option Addr) (w : World) (h : Gone w p) : Calls Tryd.prog 42 #[.pointer p] w fun e w' => e = .returned (.int .i64 0) ∧ w = w' := by
  have H := Lib.hid h
  clear h
  go_enter Tryd.func42, Tryd.ntmps42
  go_wp2_with (first | (go_at_call 74; refine (there_no _ _ H.out).mono ?_; rintro e w' ⟨rfl, rfl⟩))
  go_ret
  exact ⟨rfl, rfl⟩

theorem copy_gone (p : Option Addr) (w : World) (h : Gone w p) : Calls Tryd.prog 71 #[.pointer p] w fun e w' => e = .returned (.pointer none) ∧ w = w' := by
  have H := Lib.hid h
  clear h
  go_enter Tryd.func71, Tryd.ntmps71
  go_wp2_with (first | (go_at_call 74; refine (there_no _ _ H.out).mono ?_; rintro e w' ⟨rfl, rfl⟩))
  go_ret
  exact ⟨rfl, rfl⟩
end Go.Proofs.YthlaoanfoimkfaaDoor
