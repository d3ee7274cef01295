/- Signals: the walk of known. No condition. -/
import Derived.Test.YtnmlcijkggfhmaaSf4
namespace Go.Proofs.Ytnmlcijkggfhmaa
open Go.RowKit Go.Shelf
set_option linter.unusedVariables false
set_option linter.all false
set_option maxRecDepth 20000

def kM0 : Nat → Nat := fun _ => 0
def kM1 : Nat → Nat := setMI kM0 2 0 9
def kL1 : List Snt := [⟨0, 16, 7⟩]
def kL2 : List Snt := [⟨0, 16, 7⟩, ⟨1, 16, 8⟩]
def kL3 : List Snt := [⟨0, 16, 7⟩, ⟨1, 16, 8⟩, ⟨0, 3, 0⟩]
def kL5 : List Snt := [⟨1, 16, 8⟩]
def kL6 : List Snt := [⟨1, 16, 8⟩, ⟨0, 31, -1⟩]
def kL7 : List Snt := clrL 2 kL6 0
def kM7 : Nat → Nat := clrM kM1 2 0

theorem k0 (V : World) (g mb : Nat) (B : List Nat) (h : SG V g mb 2 2 [] kM0 B) : Calls Try.prog 10 #[.pointer (some ⟨g, 0, none⟩), .int .i64 (0), .int .i64 (16), .int .i64 (7)] V fun e w' => e = .returned (.int .i64 0) ∧ (∃ B', SG w' g mb 2 2 kL1 kM0 B') ∧ Only [g, mb] V w' := by
  have := send_spec h (0) (16) (7)
  rw [show sendC 2 2 [] (0) (16) = 0 by decide, show sendL 2 2 [] (0) (16) (7) = kL1 by decide] at this
  exact this.mono fun e w' ⟨h1, ⟨B', h2, _⟩, h3⟩ => ⟨h1, ⟨B', h2⟩, h3⟩
theorem k1 (V : World) (g mb : Nat) (B : List Nat) (h : SG V g mb 2 2 kL1 kM0 B) : Calls Try.prog 10 #[.pointer (some ⟨g, 0, none⟩), .int .i64 (1), .int .i64 (16), .int .i64 (8)] V fun e w' => e = .returned (.int .i64 0) ∧ (∃ B', SG w' g mb 2 2 kL2 kM0 B') ∧ Only [g, mb] V w' := by
  have := send_spec h (1) (16) (8)
  rw [show sendC 2 2 kL1 (1) (16) = 0 by decide, show sendL 2 2 kL1 (1) (16) (8) = kL2 by decide] at this
  exact this.mono fun e w' ⟨h1, ⟨B', h2, _⟩, h3⟩ => ⟨h1, ⟨B', h2⟩, h3⟩
theorem k2 (V : World) (g mb : Nat) (B : List Nat) (h : SG V g mb 2 2 kL2 kM0 B) : Calls Try.prog 10 #[.pointer (some ⟨g, 0, none⟩), .int .i64 (0), .int .i64 (17), .int .i64 (9)] V fun e w' => e = .returned (.int .i64 5) ∧ (∃ B', SG w' g mb 2 2 kL2 kM0 B') ∧ Only [g, mb] V w' := by
  have := send_spec h (0) (17) (9)
  rw [show sendC 2 2 kL2 (0) (17) = 5 by decide, show sendL 2 2 kL2 (0) (17) (9) = kL2 by decide] at this
  exact this.mono fun e w' ⟨h1, ⟨B', h2, _⟩, h3⟩ => ⟨h1, ⟨B', h2⟩, h3⟩
theorem k3 (V : World) (g mb : Nat) (B : List Nat) (h : SG V g mb 2 2 kL2 kM0 B) : Calls Try.prog 10 #[.pointer (some ⟨g, 0, none⟩), .int .i64 (0), .int .i64 (3), .int .i64 (5)] V fun e w' => e = .returned (.int .i64 0) ∧ (∃ B', SG w' g mb 2 2 kL3 kM0 B') ∧ Only [g, mb] V w' := by
  have := send_spec h (0) (3) (5)
  rw [show sendC 2 2 kL2 (0) (3) = 0 by decide, show sendL 2 2 kL2 (0) (3) (5) = kL3 by decide] at this
  exact this.mono fun e w' ⟨h1, ⟨B', h2, _⟩, h3⟩ => ⟨h1, ⟨B', h2⟩, h3⟩
theorem k4 (V : World) (g mb : Nat) (B : List Nat) (h : SG V g mb 2 2 kL3 kM0 B) : Calls Try.prog 10 #[.pointer (some ⟨g, 0, none⟩), .int .i64 (0), .int .i64 (0), .int .i64 (1)] V fun e w' => e = .returned (.int .i64 2) ∧ (∃ B', SG w' g mb 2 2 kL3 kM0 B') ∧ Only [g, mb] V w' := by
  have := send_spec h (0) (0) (1)
  rw [show sendC 2 2 kL3 (0) (0) = 2 by decide, show sendL 2 2 kL3 (0) (0) (1) = kL3 by decide] at this
  exact this.mono fun e w' ⟨h1, ⟨B', h2, _⟩, h3⟩ => ⟨h1, ⟨B', h2⟩, h3⟩
theorem k5 (V : World) (g mb : Nat) (B : List Nat) (h : SG V g mb 2 2 kL3 kM0 B) : Calls Try.prog 10 #[.pointer (some ⟨g, 0, none⟩), .int .i64 (2), .int .i64 (3), .int .i64 (1)] V fun e w' => e = .returned (.int .i64 2) ∧ (∃ B', SG w' g mb 2 2 kL3 kM0 B') ∧ Only [g, mb] V w' := by
  have := send_spec h (2) (3) (1)
  rw [show sendC 2 2 kL3 (2) (3) = 2 by decide, show sendL 2 2 kL3 (2) (3) (1) = kL3 by decide] at this
  exact this.mono fun e w' ⟨h1, ⟨B', h2, _⟩, h3⟩ => ⟨h1, ⟨B', h2⟩, h3⟩
theorem k6 (V : World) (g mb : Nat) (B : List Nat) (h : SG V g mb 2 2 kL3 kM0 B) : Calls Try.prog 13 #[.pointer (some ⟨g, 0, none⟩), .int .i64 (0)] V fun e w' => e = .returned (.int .u32 65544) ∧ (∃ B', SG w' g mb 2 2 kL3 kM0 B') ∧ Only [g, mb] V w' := by
  have := pending_any h 0
  rw [show pendI kL3 2 0 = 65544 by decide] at this
  exact this.mono fun e w' ⟨h1, h2⟩ => by subst h2; exact ⟨h1, ⟨B, h⟩, Only.refl _ _⟩
theorem k7 (V : World) (g mb : Nat) (B : List Nat) (h : SG V g mb 2 2 kL3 kM0 B) : Calls Try.prog 19 #[.pointer (some ⟨g, 0, none⟩), .int .i64 (0), .int .u32 9] V fun e w' => e = .returned (.tuple #[.int .u32 0, .int .i64 0]) ∧ (∃ B', SG w' g mb 2 2 kL3 kM1 B') ∧ Only [g, mb] V w' := by
  have := setmask_any h 0 9 (by decide)
  rw [show maskI kM0 2 0 = 0 by decide, show askC 2 0 = 0 by decide] at this
  exact this.mono fun e w' ⟨h1, h2, h3⟩ => ⟨h1, ⟨B, h2⟩, h3.mono (by simp)⟩
theorem k8 (V : World) (g mb : Nat) (B : List Nat) (h : SG V g mb 2 2 kL3 kM1 B) : Calls Try.prog 22 #[.pointer (some ⟨g, 0, none⟩), .int .i64 (0)] V fun e w' => e = .returned (.int .u32 65536) ∧ (∃ B', SG w' g mb 2 2 kL3 kM1 B') ∧ Only [g, mb] V w' := by
  have := open_any h 0
  rw [show pendI kL3 2 0 = 65544 by decide, show maskI kM1 2 0 = 8 by decide] at this
  rw [show bits .andNot .u32 ((65544 : Nat) : Int) ((8 : Nat) : Int) = 65536 by decide] at this
  exact this.mono fun e w' ⟨h1, h2⟩ => by subst h2; exact ⟨h1, ⟨B, h⟩, Only.refl _ _⟩
theorem k9 (V : World) (g mb : Nat) (B : List Nat) (h : SG V g mb 2 2 kL3 kM1 B) : Calls Try.prog 23 #[.pointer (some ⟨g, 0, none⟩), .int .i64 (0), .int .u32 65536] V fun e w' => e = .returned (.tuple #[.agg #[.int .i64 16, .int .i64 7], .bool true]) ∧ (∃ B', SG w' g mb 2 2 kL3 kM1 B') ∧ Only [g, mb] V w' := by
  have := peek_spec h 0 65536 (by decide)
  rw [show peekI 2 kL3 0 65536 = some (16, 7) by decide] at this
  exact this.mono fun e w' ⟨h1, h2⟩ => ⟨h1, ⟨B, h.only0 h2⟩, h2.mono (by simp)⟩
theorem k10 (V : World) (g mb : Nat) (B : List Nat) (h : SG V g mb 2 2 kL3 kM1 B) : Calls Try.prog 11 #[.pointer (some ⟨g, 0, none⟩), .int .i64 (0), .int .u32 4294967295] V fun e w' => e = .returned (.tuple #[.agg #[.int .i64 3, .int .i64 0], .bool true]) ∧ (∃ B', SG w' g mb 2 2 kL2 kM1 B') ∧ Only [g, mb] V w' := by
  have := next_spec h 0 4294967295 (by decide)
  rw [show peekI 2 kL3 0 4294967295 = (some (3, 0)) by decide, show nextL 2 kL3 0 4294967295 = kL2 by decide] at this
  exact this.mono fun e w' ⟨h1, h2, h3⟩ => ⟨h1, ⟨B, h2⟩, h3⟩
theorem k11 (V : World) (g mb : Nat) (B : List Nat) (h : SG V g mb 2 2 kL2 kM1 B) : Calls Try.prog 11 #[.pointer (some ⟨g, 0, none⟩), .int .i64 (0), .int .u32 4294967295] V fun e w' => e = .returned (.tuple #[.agg #[.int .i64 16, .int .i64 7], .bool true]) ∧ (∃ B', SG w' g mb 2 2 kL5 kM1 B') ∧ Only [g, mb] V w' := by
  have := next_spec h 0 4294967295 (by decide)
  rw [show peekI 2 kL2 0 4294967295 = (some (16, 7)) by decide, show nextL 2 kL2 0 4294967295 = kL5 by decide] at this
  exact this.mono fun e w' ⟨h1, h2, h3⟩ => ⟨h1, ⟨B, h2⟩, h3⟩
theorem k12 (V : World) (g mb : Nat) (B : List Nat) (h : SG V g mb 2 2 kL5 kM1 B) : Calls Try.prog 11 #[.pointer (some ⟨g, 0, none⟩), .int .i64 (0), .int .u32 4294967295] V fun e w' => e = .returned (.tuple #[.agg #[.int .i64 0, .int .i64 0], .bool false]) ∧ (∃ B', SG w' g mb 2 2 kL5 kM1 B') ∧ Only [g, mb] V w' := by
  have := next_spec h 0 4294967295 (by decide)
  rw [show peekI 2 kL5 0 4294967295 = none by decide, show nextL 2 kL5 0 4294967295 = kL5 by decide] at this
  exact this.mono fun e w' ⟨h1, h2, h3⟩ => ⟨h1, ⟨B, h2⟩, h3⟩
theorem k13 (V : World) (g mb : Nat) (B : List Nat) (h : SG V g mb 2 2 kL5 kM1 B) : Calls Try.prog 12 #[.pointer (some ⟨g, 0, none⟩)] V fun e w' => e = .returned (.int .i64 1) ∧ (∃ B', SG w' g mb 2 2 kL5 kM1 B') ∧ Only [g, mb] V w' := by
  have := used_any h
  rw [show usedOf kL5 = 1 by decide] at this
  exact this.mono fun e w' ⟨h1, h2⟩ => by subst h2; exact ⟨h1, ⟨B, h⟩, Only.refl _ _⟩
theorem k14 (V : World) (g mb : Nat) (B : List Nat) (h : SG V g mb 2 2 kL5 kM1 B) : Calls Try.prog 10 #[.pointer (some ⟨g, 0, none⟩), .int .i64 (0), .int .i64 (31), .int .i64 (-1)] V fun e w' => e = .returned (.int .i64 0) ∧ (∃ B', SG w' g mb 2 2 kL6 kM1 B') ∧ Only [g, mb] V w' := by
  have := send_spec h (0) (31) (-1)
  rw [show sendC 2 2 kL5 (0) (31) = 0 by decide, show sendL 2 2 kL5 (0) (31) (-1) = kL6 by decide] at this
  exact this.mono fun e w' ⟨h1, ⟨B', h2, _⟩, h3⟩ => ⟨h1, ⟨B', h2⟩, h3⟩
theorem k15 (V : World) (g mb : Nat) (B : List Nat) (h : SG V g mb 2 2 kL6 kM1 B) : Calls Try.prog 10 #[.pointer (some ⟨g, 0, none⟩), .int .i64 (0), .int .i64 (16), .int .i64 (1)] V fun e w' => e = .returned (.int .i64 5) ∧ (∃ B', SG w' g mb 2 2 kL6 kM1 B') ∧ Only [g, mb] V w' := by
  have := send_spec h (0) (16) (1)
  rw [show sendC 2 2 kL6 (0) (16) = 5 by decide, show sendL 2 2 kL6 (0) (16) (1) = kL6 by decide] at this
  exact this.mono fun e w' ⟨h1, ⟨B', h2, _⟩, h3⟩ => ⟨h1, ⟨B', h2⟩, h3⟩
theorem k16 (V : World) (g mb : Nat) (B : List Nat) (h : SG V g mb 2 2 kL6 kM1 B) : Calls Try.prog 20 #[.pointer (some ⟨g, 0, none⟩), .int .i64 (0)] V fun e w' => e = .returned (.tuple #[.int .i64 1, .int .i64 0]) ∧ (∃ B', SG w' g mb 2 2 kL7 kM7 B') ∧ Only [g, mb] V w' := by
  have := clear_spec h 0
  rw [show (allI 2 kL6 0).length = 1 by decide, show askC 2 0 = 0 by decide] at this
  exact this.mono fun e w' ⟨h1, h2, h3⟩ => ⟨h1, ⟨B, h2⟩, h3⟩
theorem k17 (V : World) (g mb : Nat) (B : List Nat) (h : SG V g mb 2 2 kL7 kM7 B) : Calls Try.prog 24 #[.pointer (some ⟨g, 0, none⟩), .int .i64 (0)] V fun e w' => e = .returned (.int .u32 0) ∧ (∃ B', SG w' g mb 2 2 kL7 kM7 B') ∧ Only [g, mb] V w' := by
  have := mask_any h 0
  rw [show maskI kM7 2 0 = 0 by decide] at this
  exact this.mono fun e w' ⟨h1, h2⟩ => by subst h2; exact ⟨h1, ⟨B, h⟩, Only.refl _ _⟩
set_option maxHeartbeats 4000000 in
theorem known_any (w : World) : Calls Try.prog 7 #[] w fun e w' => e = .returned (.bool true) ∧ Only [] w w' := by
  have NW := hide (new_good 2 2 (by decide) (by decide) (by decide) (by decide) w)
  have e1 := fun W => eql36 16 16 7 7 W
  have e2 := fun W => eql36 3 3 0 0 W
  go_enter Try.func7, Try.ntmps7
  go_wp2_with (first
    | (go_at_call 9; refine (num_any _ _).mono ?_; rintro e w' ⟨rfl, hw⟩; obtain rfl := hw.symm; clear hw)
    | (go_at_call 8; refine NW.out.mono ?_; rintro e w0 ⟨g, mb, he, hS, hg, hm, o⟩; unfold newE ptr at he; subst he; have HG := hide hg; have HM := hide hm; have Z0 := hide (show ∃ B, SG w0 g mb 2 2 [] kM0 B from ⟨_, hS⟩); have OZ0 := hide o; obtain ⟨B0, S0⟩ := Z0.out; have C0 := hide (k0 w0 g mb B0 S0); clear S0 hS hg hm o Z0)
    | (go_at_call 10; (with_reducible refine C0.out.mono ?_); rintro e w1 ⟨rfl, ⟨B1, S1⟩, o1⟩; have OZ1 := hide (OZ0.out.trans o1 (fun x hx => .inr (by have := HG.out; have := HM.out; simp at hx; omega))); have C1 := hide (k1 w1 g mb B1 S1); clear C0 S1 o1)
    | (go_at_call 10; (with_reducible refine C1.out.mono ?_); rintro e w2 ⟨rfl, ⟨B2, S2⟩, o2⟩; have OZ2 := hide (OZ1.out.trans o2 (fun x hx => .inr (by have := HG.out; have := HM.out; simp at hx; omega))); have C2 := hide (k2 w2 g mb B2 S2); clear C1 S2 o2)
    | (go_at_call 10; (with_reducible refine C2.out.mono ?_); rintro e w3 ⟨rfl, ⟨B3, S3⟩, o3⟩; have OZ3 := hide (OZ2.out.trans o3 (fun x hx => .inr (by have := HG.out; have := HM.out; simp at hx; omega))); have C3 := hide (k3 w3 g mb B3 S3); clear C2 S3 o3)
    | (go_at_call 10; (with_reducible refine C3.out.mono ?_); rintro e w4 ⟨rfl, ⟨B4, S4⟩, o4⟩; have OZ4 := hide (OZ3.out.trans o4 (fun x hx => .inr (by have := HG.out; have := HM.out; simp at hx; omega))); have C4 := hide (k4 w4 g mb B4 S4); clear C3 S4 o4)
    | (go_at_call 10; (with_reducible refine C4.out.mono ?_); rintro e w5 ⟨rfl, ⟨B5, S5⟩, o5⟩; have OZ5 := hide (OZ4.out.trans o5 (fun x hx => .inr (by have := HG.out; have := HM.out; simp at hx; omega))); have C5 := hide (k5 w5 g mb B5 S5); clear C4 S5 o5)
    | (go_at_call 10; (with_reducible refine C5.out.mono ?_); rintro e w6 ⟨rfl, ⟨B6, S6⟩, o6⟩; have OZ6 := hide (OZ5.out.trans o6 (fun x hx => .inr (by have := HG.out; have := HM.out; simp at hx; omega))); have C6 := hide (k6 w6 g mb B6 S6); clear C5 S6 o6)
    | (go_at_call 13; (with_reducible refine C6.out.mono ?_); rintro e w7 ⟨rfl, ⟨B7, S7⟩, o7⟩; have OZ7 := hide (OZ6.out.trans o7 (fun x hx => .inr (by have := HG.out; have := HM.out; simp at hx; omega))); have C7 := hide (k7 w7 g mb B7 S7); clear C6 S7 o7)
    | (go_at_call 19; (with_reducible refine C7.out.mono ?_); rintro e w8 ⟨rfl, ⟨B8, S8⟩, o8⟩; have OZ8 := hide (OZ7.out.trans o8 (fun x hx => .inr (by have := HG.out; have := HM.out; simp at hx; omega))); have C8 := hide (k8 w8 g mb B8 S8); clear C7 S8 o8)
    | (go_at_call 22; (with_reducible refine C8.out.mono ?_); rintro e w9 ⟨rfl, ⟨B9, S9⟩, o9⟩; have OZ9 := hide (OZ8.out.trans o9 (fun x hx => .inr (by have := HG.out; have := HM.out; simp at hx; omega))); have C9 := hide (k9 w9 g mb B9 S9); clear C8 S9 o9)
    | (go_at_call 23; (with_reducible refine C9.out.mono ?_); rintro e w10 ⟨rfl, ⟨B10, S10⟩, o10⟩; have OZ10 := hide (OZ9.out.trans o10 (fun x hx => .inr (by have := HG.out; have := HM.out; simp at hx; omega))); have D10 := hide ((OZ10.out).alloc (.cells #[.int .i64 16, .int .i64 7] 36)); have S10' := S10.only0 ((Only.refl [] w10).alloc (.cells #[.int .i64 16, .int .i64 7] 36)); have C10 := hide (k10 (w10.alloc (.cells #[.int .i64 16, .int .i64 7] 36)) g mb B10 S10'); have LTT10 := hide (show g < w10.heap.size ∧ mb < w10.heap.size from ⟨S10.lt.1, S10.lt.2.1⟩); have T10_10 := hide (Blk.new w10 36 #[.int .i64 16, .int .i64 7]); clear C9 S10 o10)
    | (go_at_call 11; (with_reducible refine C10.out.mono ?_); rintro e w11 ⟨rfl, ⟨B11, S11⟩, o11⟩; have OZ11 := hide (D10.out.trans o11 (fun x hx => .inr (by have := HG.out; have := HM.out; simp at hx; omega))); have D11 := hide ((OZ11.out).alloc (.cells #[.int .i64 3, .int .i64 0] 36)); have S11' := S11.only0 ((Only.refl [] w11).alloc (.cells #[.int .i64 3, .int .i64 0] 36)); have C11 := hide (k11 (w11.alloc (.cells #[.int .i64 3, .int .i64 0] 36)) g mb B11 S11'); have T10_11 := hide ((T10_10.out.only o11 (by have := LTT10.out; simp; omega)).alloc (.cells #[.int .i64 3, .int .i64 0] 36)); have LTT11 := hide (show g < w11.heap.size ∧ mb < w11.heap.size from ⟨S11.lt.1, S11.lt.2.1⟩); have T11_11 := hide (Blk.new w11 36 #[.int .i64 3, .int .i64 0]); clear C10 S11 o11)
    | (go_at_call 11; (with_reducible refine C11.out.mono ?_); rintro e w12 ⟨rfl, ⟨B12, S12⟩, o12⟩; have OZ12 := hide (D11.out.trans o12 (fun x hx => .inr (by have := HG.out; have := HM.out; simp at hx; omega))); have D12 := hide ((OZ12.out).alloc (.cells #[.int .i64 16, .int .i64 7] 36)); have S12' := S12.only0 ((Only.refl [] w12).alloc (.cells #[.int .i64 16, .int .i64 7] 36)); have C12 := hide (k12 (w12.alloc (.cells #[.int .i64 16, .int .i64 7] 36)) g mb B12 S12'); have T10_12 := hide ((T10_11.out.only o12 (by have := LTT10.out; simp; omega)).alloc (.cells #[.int .i64 16, .int .i64 7] 36)); have T11_12 := hide ((T11_11.out.only o12 (by have := LTT11.out; simp; omega)).alloc (.cells #[.int .i64 16, .int .i64 7] 36)); have LTT12 := hide (show g < w12.heap.size ∧ mb < w12.heap.size from ⟨S12.lt.1, S12.lt.2.1⟩); have T12_12 := hide (Blk.new w12 36 #[.int .i64 16, .int .i64 7]); clear C11 S12 o12)
    | (go_at_call 11; (with_reducible refine C12.out.mono ?_); rintro e w13 ⟨rfl, ⟨B13, S13⟩, o13⟩; have OZ13 := hide (D12.out.trans o13 (fun x hx => .inr (by have := HG.out; have := HM.out; simp at hx; omega))); have D13 := hide ((OZ13.out).alloc (.cells #[.int .i64 0, .int .i64 0] 36)); have S13' := S13.only0 ((Only.refl [] w13).alloc (.cells #[.int .i64 0, .int .i64 0] 36)); have C13 := hide (k13 (w13.alloc (.cells #[.int .i64 0, .int .i64 0] 36)) g mb B13 S13'); have T10_13 := hide ((T10_12.out.only o13 (by have := LTT10.out; simp; omega)).alloc (.cells #[.int .i64 0, .int .i64 0] 36)); have T11_13 := hide ((T11_12.out.only o13 (by have := LTT11.out; simp; omega)).alloc (.cells #[.int .i64 0, .int .i64 0] 36)); have T12_13 := hide ((T12_12.out.only o13 (by have := LTT12.out; simp; omega)).alloc (.cells #[.int .i64 0, .int .i64 0] 36)); clear C12 S13 o13)
    | (go_at_call 12; (with_reducible refine C13.out.mono ?_); rintro e w14 ⟨rfl, ⟨B14, S14⟩, o14⟩; have OZ14 := hide (D13.out.trans o14 (fun x hx => .inr (by have := HG.out; have := HM.out; simp at hx; omega))); have C14 := hide (k14 w14 g mb B14 S14); have T10_14 := hide ((T10_13.out.only o14 (by have := LTT10.out; simp; omega))); have T11_14 := hide ((T11_13.out.only o14 (by have := LTT11.out; simp; omega))); have T12_14 := hide ((T12_13.out.only o14 (by have := LTT12.out; simp; omega))); clear C13 S14 o14)
    | (go_at_call 10; (with_reducible refine C14.out.mono ?_); rintro e w15 ⟨rfl, ⟨B15, S15⟩, o15⟩; have OZ15 := hide (OZ14.out.trans o15 (fun x hx => .inr (by have := HG.out; have := HM.out; simp at hx; omega))); have C15 := hide (k15 w15 g mb B15 S15); have T10_15 := hide ((T10_14.out.only o15 (by have := LTT10.out; simp; omega))); have T11_15 := hide ((T11_14.out.only o15 (by have := LTT11.out; simp; omega))); have T12_15 := hide ((T12_14.out.only o15 (by have := LTT12.out; simp; omega))); clear C14 S15 o15)
    | (go_at_call 10; (with_reducible refine C15.out.mono ?_); rintro e w16 ⟨rfl, ⟨B16, S16⟩, o16⟩; have OZ16 := hide (OZ15.out.trans o16 (fun x hx => .inr (by have := HG.out; have := HM.out; simp at hx; omega))); have C16 := hide (k16 w16 g mb B16 S16); have T10_16 := hide ((T10_15.out.only o16 (by have := LTT10.out; simp; omega))); have T11_16 := hide ((T11_15.out.only o16 (by have := LTT11.out; simp; omega))); have T12_16 := hide ((T12_15.out.only o16 (by have := LTT12.out; simp; omega))); clear C15 S16 o16)
    | (go_at_call 20; (with_reducible refine C16.out.mono ?_); rintro e w17 ⟨rfl, ⟨B17, S17⟩, o17⟩; have OZ17 := hide (OZ16.out.trans o17 (fun x hx => .inr (by have := HG.out; have := HM.out; simp at hx; omega))); have C17 := hide (k17 w17 g mb B17 S17); have T10_17 := hide ((T10_16.out.only o17 (by have := LTT10.out; simp; omega))); have T11_17 := hide ((T11_16.out.only o17 (by have := LTT11.out; simp; omega))); have T12_17 := hide ((T12_16.out.only o17 (by have := LTT12.out; simp; omega))); have yT100 := T10_17.out.cell 0; have yT101 := T10_17.out.cell 1; have yT110 := T11_17.out.cell 0; have yT111 := T11_17.out.cell 1; have yT120 := T12_17.out.cell 0; have yT121 := T12_17.out.cell 1; clear C16 S17 o17)
    | (go_at_call 24; (with_reducible refine C17.out.mono ?_); rintro e w18 ⟨rfl, ⟨B18, S18⟩, o18⟩; have OZ18 := hide (OZ17.out.trans o18 (fun x hx => .inr (by have := HG.out; have := HM.out; simp at hx; omega))); have T10_18 := hide ((T10_17.out.only o18 (by have := LTT10.out; simp; omega))); have T11_18 := hide ((T11_17.out.only o18 (by have := LTT11.out; simp; omega))); have T12_18 := hide ((T12_17.out.only o18 (by have := LTT12.out; simp; omega))); clear C17 S18 o18))
  go_ret
  exact ⟨rfl, OZ18.out⟩
end Go.Proofs.Ytnmlcijkggfhmaa
