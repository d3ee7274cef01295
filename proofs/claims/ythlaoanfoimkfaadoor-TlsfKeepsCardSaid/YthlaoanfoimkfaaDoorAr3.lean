/- Walks over arena: Read, Write, Cost, Size, Reset, Copy, Same of an arena that is there; Get and Set refused. -/
import Derived.Test.YthlaoanfoimkfaaDoorAr2
namespace Go.Proofs.YthlaoanfoimkfaaDoor
open Go.RowKit
set_option linter.unusedVariables false
set_option linter.unusedSimpArgs false
set_option maxRecDepth 100000

theorem get_bad (g gb cap : Nat) (bs : List UInt8) (c off : Int) (w : World) (h : Ar w g gb cap bs c) (hn : ¬ (0 ≤ off ∧ off < bs.length ∧ off % 4 = 0)) (hlo : -9223372036854775808 ≤ off) :
    Calls Tryd.prog 38 #[.pointer (some ⟨g, 0, none⟩), .int .i64 off] w fun e w' => e = .returned (.tuple #[.int .u32 0, .int .i64 2]) ∧ Only [] w w' := by
  have k0 : w.cell? ⟨g, 0, none⟩ = some (.slice (some ⟨gb, 0, none⟩) bs.length cap) := by simpa using h.hdr.cell 0
  have hg := h.hdr.lt
  have hp := h.pos
  have H := Lib.hid hn
  clear hn
  go_enter Tryd.func38, Tryd.ntmps38
  go_wp2_with fail
  go_step3
  go_wp2_with (first
    | (go_at_call 73; refine (word_any _ _ _ g rfl).mono ?_; rintro e w' ⟨rfl, rfl⟩)
    | (go_at_call 72; refine (ask_no _ _ g gb bs.length cap off _ (by simp [go_sem]) (by simp [go_sem]) (by simp [go_sem, k0, hg]) hp H.out hlo).mono ?_; rintro e w' ⟨rfl, k, rfl⟩))
  rw [Exit.noGoto_ret]
  go_ret2
  exact ⟨rfl, (((Only.refl [] _).alloc _).alloc _).drewN _⟩
theorem set_bad (g gb cap : Nat) (bs : List UInt8) (c off v : Int) (w : World) (h : Ar w g gb cap bs c) (hn : ¬ (0 ≤ off ∧ off < bs.length ∧ off % 4 = 0)) (hlo : -9223372036854775808 ≤ off) :
    Calls Tryd.prog 70 #[.pointer (some ⟨g, 0, none⟩), .int .i64 off, .int .u32 v] w fun e w' => e = .returned (.int .i64 2) ∧ Only [] w w' := by
  have k0 : w.cell? ⟨g, 0, none⟩ = some (.slice (some ⟨gb, 0, none⟩) bs.length cap) := by simpa using h.hdr.cell 0
  have hg := h.hdr.lt
  have hp := h.pos
  have H := Lib.hid hn
  clear hn
  go_enter Tryd.func70, Tryd.ntmps70
  go_wp2_with (first
    | (go_at_call 73; refine (word_any _ _ _ g rfl).mono ?_; rintro e w' ⟨rfl, rfl⟩)
    | (go_at_call 72; refine (ask_no _ _ g gb bs.length cap off _ (by simp [go_sem]) (by simp [go_sem]) (by simp [go_sem, k0, hg]) hp H.out hlo).mono ?_; rintro e w' ⟨rfl, k, rfl⟩))
  go_ret
  exact ⟨rfl, (((Only.refl [] _).alloc _).alloc _).drewN _⟩

theorem size_any (g gb cap : Nat) (bs : List UInt8) (c : Int) (w : World) (h : Ar w g gb cap bs c) :
    Calls Tryd.prog 42 #[.pointer (some ⟨g, 0, none⟩)] w fun e w' => e = .returned (.int .i64 bs.length) ∧ w = w' := by
  have k0 : w.cell? ⟨g, 0, none⟩ = some (.slice (some ⟨gb, 0, none⟩) bs.length cap) := by simpa using h.hdr.cell 0
  have hp := h.pos
  go_enter Tryd.func42, Tryd.ntmps42
  go_wp2
  go_ret
  exact ⟨rfl, rfl⟩

/-- bytes.Clone of a slice that has an address. -/
theorem clone_any (ad : Addr) (n c : Nat) (bs : List UInt8) (w : World) (hl : bs.length = n) (hcell : ∀ j u, (U8s bs)[j]? = some u → w.cell? (ad.add j) = some u) (hm : n ≤ 140737488355328) (hlt : ad.block < w.heap.size) :
    Calls Tryd.prog 81 #[.slice (some ad) n c] w fun e w' => (∃ g' cap', e = .returned (.slice (some ⟨g', 0, none⟩) n cap') ∧ w'.ownsRow w.heap.size 5 1 (.slice (some ⟨g', 0, none⟩) n cap') n (U8s bs)) ∧ Only [] w w' := by
  obtain ⟨i0, hi, hz0, hz1, hz2⟩ := info_parts u8_info
  have hnil := fun (W : World) (a : Option Addr) (n c n' c' : Nat) => Lib.run_eql_slice_nil (P := Tryd.prog) W 38 5 a n c n' c' Tryd.underlying38
  have hown := World.ownsRow_lit (base := w.heap.size) (e := 5) (size := 1) w #[] 0 (Nat.le_refl _) (by unfold maxLen; omega) rfl
  go_enter Tryd.func81, Tryd.ntmps81
  go_wp2_with ((at_builtin
                refine wpList_append_own_at _ rfl (.tmp 5) (.tmp 6) 38 rfl w.heap.size 5 i0 (.int .u8 0) 1 1 Tryd.underlying38 hi hz0 hz1 hz2 rfl (by omega) (.slice (some ⟨w.heap.size, 0, none⟩) 0 0) 0 _ rfl hown ad n c (U8s bs) rfl (by rw [length_U8s]; omega) ?_ (U8s_one bs) (by unfold maxLen; omega) (by omega) (by simp) ?_
                · exact fun j u hj => (World.cell?_alloc_lt w _ _ (by rw [block_of_add]; exact hlt)).trans (hcell j u hj)
                intro v w1 hv hg hiff hblk))
  go_ret
  have hO : Only [] w w1 := ((Only.refl [] w).alloc (.cells #[] 5)).grown hg (fun k hk => by
    simp [Value.ownBlock] at hk
    exact .inr (by omega))
  have hv' : w1.ownsRow w.heap.size 5 1 v n (U8s bs) := by simpa using hv
  rcases hv'.2 with ⟨hx, _⟩ | ⟨g', cap', cur, hx, _⟩
  · have := hiff.1 hx
    simp at this
  · subst hx
    exact ⟨⟨g', cap', rfl, hv'⟩, hO⟩

theorem read1_yes (p q r : Addr) (g gb len cap : Nat) (off n : Int) (w : World) (hp : w.cell? p = some (.int .i64 off)) (hq : w.cell? q = some (.int .i64 n)) (hr : w.cell? r = some (.pointer (some ⟨g, 0, none⟩)))
    (hc : w.cell? ⟨g, 0, none⟩ = some (.slice (some ⟨gb, 0, none⟩) len cap)) (h0 : 0 ≤ off) (h1 : 0 ≤ n) (h2 : off + n ≤ len) (hm : len ≤ 65536) :
    Calls Tryd.prog 80 #[.pointer (some p), .pointer (some q), .pointer (some r)] w fun e w' => e = .returned (.bool true) ∧ ∃ k, w.drewN k = w' := by
  have d0 : decide (0 ≤ off) = true := by simp; omega
  have d1 : decide (0 ≤ n) = true := by simp; omega
  have d2 : decide (off ≤ len) = true := by simp; omega
  have d3 : decide (n ≤ len - off) = true := by simp; omega
  go_enter Tryd.func80, Tryd.ntmps80
  go_wp2
  go_quiet (fail)
  go_wp2
  go_ret
  exact ⟨rfl, _, rfl⟩
theorem read1_no (p q r : Addr) (g gb len cap : Nat) (off n : Int) (w : World) (hp : w.cell? p = some (.int .i64 off)) (hq : w.cell? q = some (.int .i64 n)) (hr : w.cell? r = some (.pointer (some ⟨g, 0, none⟩)))
    (hc : w.cell? ⟨g, 0, none⟩ = some (.slice (some ⟨gb, 0, none⟩) len cap)) (h : ¬ (0 ≤ off ∧ 0 ≤ n ∧ off ≤ len ∧ n ≤ len - off)) (hm : len ≤ 65536) :
    Calls Tryd.prog 80 #[.pointer (some p), .pointer (some q), .pointer (some r)] w fun e w' => e = .returned (.bool false) ∧ ∃ k, w.drewN k = w' := by
  by_cases h0 : 0 ≤ off
  · have d0 : decide (0 ≤ off) = true := by simp; omega
    by_cases h1 : 0 ≤ n
    · have d1 : decide (0 ≤ n) = true := by simp; omega
      by_cases h2 : off ≤ len
      · have d2 : decide (off ≤ len) = true := by simp; omega
        have d3 : decide (n ≤ len - off) = false := by simp; omega
        clear h
        go_enter Tryd.func80, Tryd.ntmps80
        go_wp2
        go_quiet (fail)
        go_wp2
        go_ret
        exact ⟨rfl, _, rfl⟩
      · have d2 : decide (off ≤ len) = false := by simp; omega
        clear h
        go_enter Tryd.func80, Tryd.ntmps80
        go_wp2
        go_quiet (fail)
        go_wp2
        go_ret
        exact ⟨rfl, _, rfl⟩
    · have d1 : decide (0 ≤ n) = false := by simp; omega
      clear h
      go_enter Tryd.func80, Tryd.ntmps80
      go_wp2
      go_quiet (fail)
      go_wp2
      go_ret
      exact ⟨rfl, _, rfl⟩
  · have d0 : decide (0 ≤ off) = false := by simp; omega
    clear h
    go_enter Tryd.func80, Tryd.ntmps80
    go_wp2
    go_quiet (fail)
    go_wp2
    go_ret
    exact ⟨rfl, _, rfl⟩

theorem write1_yes (p q r : Addr) (g gb len cap : Nat) (off : Int) (a : Option Addr) (n c : Nat) (w : World) (hp : w.cell? p = some (.int .i64 off)) (hq : w.cell? q = some (.pointer (some ⟨g, 0, none⟩))) (hr : w.cell? r = some (.slice a n c))
    (hc : w.cell? ⟨g, 0, none⟩ = some (.slice (some ⟨gb, 0, none⟩) len cap)) (h0 : 0 ≤ off) (h2 : off + n ≤ len) (hm : len ≤ 65536) :
    Calls Tryd.prog 75 #[.pointer (some p), .pointer (some q), .pointer (some r)] w fun e w' => e = .returned (.bool true) ∧ ∃ k, w.drewN k = w' := by
  have d0 : decide (0 ≤ off) = true := by simp; omega
  have d2 : decide (off ≤ len) = true := by simp; omega
  have d3 : decide ((n : Int) ≤ len - off) = true := by simp; omega
  go_enter Tryd.func75, Tryd.ntmps75
  go_wp2
  go_quiet (fail)
  go_wp2
  go_ret
  exact ⟨rfl, _, rfl⟩
theorem write1_no (p q r : Addr) (g gb len cap : Nat) (off : Int) (a : Option Addr) (n c : Nat) (w : World) (hp : w.cell? p = some (.int .i64 off)) (hq : w.cell? q = some (.pointer (some ⟨g, 0, none⟩))) (hr : w.cell? r = some (.slice a n c))
    (hc : w.cell? ⟨g, 0, none⟩ = some (.slice (some ⟨gb, 0, none⟩) len cap)) (h : ¬ (0 ≤ off ∧ off ≤ len ∧ (n : Int) ≤ len - off)) (hm : len ≤ 65536) :
    Calls Tryd.prog 75 #[.pointer (some p), .pointer (some q), .pointer (some r)] w fun e w' => e = .returned (.bool false) ∧ ∃ k, w.drewN k = w' := by
  by_cases h0 : 0 ≤ off
  · have d0 : decide (0 ≤ off) = true := by simp; omega
    by_cases h2 : off ≤ len
    · have d2 : decide (off ≤ len) = true := by simp; omega
      have d3 : decide ((n : Int) ≤ len - off) = false := by simp; omega
      clear h
      go_enter Tryd.func75, Tryd.ntmps75
      go_wp2
      go_quiet (fail)
      go_wp2
      go_ret
      exact ⟨rfl, _, rfl⟩
    · have d2 : decide (off ≤ len) = false := by simp; omega
      clear h
      go_enter Tryd.func75, Tryd.ntmps75
      go_wp2
      go_quiet (fail)
      go_wp2
      go_ret
      exact ⟨rfl, _, rfl⟩
  · have d0 : decide (0 ≤ off) = false := by simp; omega
    clear h
    go_enter Tryd.func75, Tryd.ntmps75
    go_wp2
    go_quiet (fail)
    go_wp2
    go_ret
    exact ⟨rfl, _, rfl⟩

theorem askr_yes (p q r : Addr) (g gb len cap : Nat) (off n : Int) (w : World) (hp : w.cell? p = some (.int .i64 off)) (hq : w.cell? q = some (.int .i64 n)) (hr : w.cell? r = some (.pointer (some ⟨g, 0, none⟩)))
    (hc : w.cell? ⟨g, 0, none⟩ = some (.slice (some ⟨gb, 0, none⟩) len cap)) (hn : 0 < len) (h0 : 0 ≤ off) (h1 : 0 ≤ n) (h2 : off + n ≤ len) (hm : len ≤ 65536) :
    Calls Tryd.prog 72 #[.pointer (some ⟨g, 0, none⟩), .func (.func 80) #[] #[.pointer (some p), .pointer (some q), .pointer (some r)]] w fun e w' => e = .returned (.int .i64 0) ∧ ∃ k, w.drewN k = w' := by
  go_enter Tryd.func72, Tryd.ntmps72
  go_wp2_with (first | (go_at_call 80; refine (read1_yes _ _ _ g gb len cap off n _ hp hq hr hc h0 h1 h2 hm).mono ?_; rintro e w' ⟨rfl, k, rfl⟩) | go_in)
  go_ret
  exact ⟨rfl, _, rfl⟩
theorem askr_no (p q r : Addr) (g gb len cap : Nat) (off n : Int) (w : World) (hp : w.cell? p = some (.int .i64 off)) (hq : w.cell? q = some (.int .i64 n)) (hr : w.cell? r = some (.pointer (some ⟨g, 0, none⟩)))
    (hc : w.cell? ⟨g, 0, none⟩ = some (.slice (some ⟨gb, 0, none⟩) len cap)) (hn : 0 < len) (h : ¬ (0 ≤ off ∧ 0 ≤ n ∧ off ≤ len ∧ n ≤ len - off)) (hm : len ≤ 65536) :
    Calls Tryd.prog 72 #[.pointer (some ⟨g, 0, none⟩), .func (.func 80) #[] #[.pointer (some p), .pointer (some q), .pointer (some r)]] w fun e w' => e = .returned (.int .i64 2) ∧ ∃ k, w.drewN k = w' := by
  have H := Lib.hid h
  clear h
  go_enter Tryd.func72, Tryd.ntmps72
  go_wp2_with (first | (go_at_call 80; refine (read1_no _ _ _ g gb len cap off n _ hp hq hr hc H.out hm).mono ?_; rintro e w' ⟨rfl, k, rfl⟩) | go_in)
  go_ret
  exact ⟨rfl, _, rfl⟩
theorem askw_yes (p q r : Addr) (g gb len cap : Nat) (off : Int) (a : Option Addr) (n c : Nat) (w : World) (hp : w.cell? p = some (.int .i64 off)) (hq : w.cell? q = some (.pointer (some ⟨g, 0, none⟩))) (hr : w.cell? r = some (.slice a n c))
    (hc : w.cell? ⟨g, 0, none⟩ = some (.slice (some ⟨gb, 0, none⟩) len cap)) (hn : 0 < len) (h0 : 0 ≤ off) (h2 : off + n ≤ len) (hm : len ≤ 65536) :
    Calls Tryd.prog 72 #[.pointer (some ⟨g, 0, none⟩), .func (.func 75) #[] #[.pointer (some p), .pointer (some q), .pointer (some r)]] w fun e w' => e = .returned (.int .i64 0) ∧ ∃ k, w.drewN k = w' := by
  go_enter Tryd.func72, Tryd.ntmps72
  go_wp2_with (first | (go_at_call 75; refine (write1_yes _ _ _ g gb len cap off a n c _ hp hq hr hc h0 h2 hm).mono ?_; rintro e w' ⟨rfl, k, rfl⟩) | go_in)
  go_ret
  exact ⟨rfl, _, rfl⟩
theorem askw_no (p q r : Addr) (g gb len cap : Nat) (off : Int) (a : Option Addr) (n c : Nat) (w : World) (hp : w.cell? p = some (.int .i64 off)) (hq : w.cell? q = some (.pointer (some ⟨g, 0, none⟩))) (hr : w.cell? r = some (.slice a n c))
    (hc : w.cell? ⟨g, 0, none⟩ = some (.slice (some ⟨gb, 0, none⟩) len cap)) (hn : 0 < len) (h : ¬ (0 ≤ off ∧ off ≤ len ∧ (n : Int) ≤ len - off)) (hm : len ≤ 65536) :
    Calls Tryd.prog 72 #[.pointer (some ⟨g, 0, none⟩), .func (.func 75) #[] #[.pointer (some p), .pointer (some q), .pointer (some r)]] w fun e w' => e = .returned (.int .i64 2) ∧ ∃ k, w.drewN k = w' := by
  have H := Lib.hid h
  clear h
  go_enter Tryd.func72, Tryd.ntmps72
  go_wp2_with (first | (go_at_call 75; refine (write1_no _ _ _ g gb len cap off a n c _ hp hq hr hc H.out hm).mono ?_; rintro e w' ⟨rfl, k, rfl⟩) | go_in)
  go_ret
  exact ⟨rfl, _, rfl⟩

theorem read_bad (g gb cap : Nat) (bs : List UInt8) (c off n : Int) (w : World) (h : Ar w g gb cap bs c) (hn : ¬ (0 ≤ off ∧ 0 ≤ n ∧ off ≤ bs.length ∧ n ≤ bs.length - off)) :
    Calls Tryd.prog 55 #[.pointer (some ⟨g, 0, none⟩), .int .i64 off, .int .i64 n] w fun e w' => e = .returned (.tuple #[.slice none 0 0, .int .i64 2]) ∧ Only [] w w' := by
  have k0 : w.cell? ⟨g, 0, none⟩ = some (.slice (some ⟨gb, 0, none⟩) bs.length cap) := by simpa using h.hdr.cell 0
  have hg := h.hdr.lt
  have hp := h.pos
  have hm := h.max
  have H := Lib.hid hn
  clear hn
  go_enter Tryd.func55, Tryd.ntmps55
  go_wp2_with (first
    | (go_at_call 72; refine (askr_no _ _ _ g gb bs.length cap off n _ (by simp [go_sem]) (by simp [go_sem]) (by simp [go_sem]) (cell_alloc _ (cell_alloc _ (cell_alloc _ k0))) hp H.out hm).mono ?_; rintro e w' ⟨rfl, k, rfl⟩))
  go_ret2
  exact ⟨rfl, ((((Only.refl [] _).alloc _).alloc _).alloc _).drewN _⟩
theorem write_bad (g gb cap : Nat) (bs : List UInt8) (c off : Int) (a : Option Addr) (n cp : Nat) (w : World) (h : Ar w g gb cap bs c) (hn : ¬ (0 ≤ off ∧ off ≤ bs.length ∧ (n : Int) ≤ bs.length - off)) :
    Calls Tryd.prog 43 #[.pointer (some ⟨g, 0, none⟩), .int .i64 off, .slice a n cp] w fun e w' => e = .returned (.int .i64 2) ∧ Only [] w w' := by
  have k0 : w.cell? ⟨g, 0, none⟩ = some (.slice (some ⟨gb, 0, none⟩) bs.length cap) := by simpa using h.hdr.cell 0
  have hg := h.hdr.lt
  have hp := h.pos
  have hm := h.max
  have H := Lib.hid hn
  clear hn
  go_enter Tryd.func43, Tryd.ntmps43
  go_wp2_with (first
    | (go_at_call 72; refine (askw_no _ _ _ g gb bs.length cap off a n cp _ (by simp [go_sem]) (by simp [go_sem]) (by simp [go_sem]) (cell_alloc _ (cell_alloc _ (cell_alloc _ k0))) hp H.out hm).mono ?_; rintro e w' ⟨rfl, k, rfl⟩))
  go_ret
  exact ⟨rfl, ((((Only.refl [] _).alloc _).alloc _).alloc _).drewN _⟩
end Go.Proofs.YthlaoanfoimkfaaDoor
