/- Signals: the walk of SignalsNil. No condition. -/
import Derived.Test.YtnmlcijkggfhmaaSn1
namespace Go.Proofs.Ytnmlcijkggfhmaa
open Go.RowKit Go.Shelf
set_option linter.unusedVariables false
set_option linter.all false
set_option maxRecDepth 20000

def nL (i : Nat) : List Snt := (List.range i).map fun k : Nat => (⟨15, 31, (k : Int)⟩ : Snt)
theorem nL_succ (i : Nat) : nL (i + 1) = nL i ++ [⟨15, 31, (i : Int)⟩] := by unfold nL; rw [List.range_succ, List.map_append]; rfl
theorem nL_used (i : Nat) : usedOf (nL i) = i := by
  induction i with
  | zero => rfl
  | succ i ih =>
    rw [nL_succ]
    unfold usedOf at ih ⊢
    rw [List.countP_append, ih]
    rfl
theorem nL_send (i : Nat) (hi : i < 32) : sendC 16 32 (nL i) 15 31 = 0 ∧ sendL 16 32 (nL i) 15 31 (i : Int) = nL (i + 1) := by
  have h0 : sendC 16 32 (nL i) 15 31 = 0 := by
    unfold sendC
    rw [nL_used, if_neg (by unfold inT; omega), if_neg (by omega)]
  refine ⟨h0, ?_⟩
  unfold sendL
  rw [if_pos h0, if_neg (by omega), nL_succ]
  rfl
def nM0 : Nat → Nat := fun _ => 0
def nM1 : Nat → Nat := setMI nM0 16 15 4294967295
def nM2 : Nat → Nat := setMI nM1 16 15 1
def nL32 : List Snt := nL 32
def nL33 : List Snt := nL32 ++ [⟨0, 15, 0⟩]
def nL34 : List Snt := clrL 16 nL33 15
def nM3 : Nat → Nat := clrM nM2 16 15
/-- Two of two threads, apart. -/
def XY (w0 w : World) (g mb g' mb' : Nat) (N : Nat) (L L' : List Snt) : Prop := ∃ B B', SG w g mb 2 4 L nM0 B ∧ SG w g' mb' 2 4 L' nM0 B' ∧ (∀ b ∈ B, N ≤ b) ∧ (∀ b ∈ B', N ≤ b) ∧ (g < N ∧ mb < N ∧ g' < N ∧ mb' < N ∧ N ≤ w.heap.size) ∧ (w0.heap.size ≤ g ∧ w0.heap.size ≤ mb ∧ w0.heap.size ≤ g' ∧ w0.heap.size ≤ mb') ∧ (g ≠ g' ∧ g ≠ mb' ∧ mb ≠ g' ∧ mb ≠ mb') ∧ Only [] w0 w
section
variable {w0 w : World} {g mb g' mb' N : Nat} {L L' : List Snt}
theorem XY.sx (h : XY w0 w g mb g' mb' N L L') (v : Int) (hc : sendC 2 4 L 0 16 = 0) : Calls Try.prog 10 #[.pointer (some ⟨g, 0, none⟩), .int .i64 0, .int .i64 16, .int .i64 v] w fun e w' => e = .returned (.int .i64 0) ∧ XY w0 w' g mb g' mb' N (sendL 2 4 L 0 16 v) L' := by
  obtain ⟨B, B', h1, h2, h3, h4, h5, h6, h7, h8⟩ := h
  have := send_spec h1 0 16 v
  rw [hc] at this
  refine this.mono fun e w' ⟨q1, ⟨Bs, q2, q3⟩, q4⟩ => ⟨q1, Bs, B', q2, h2.only q4 (by simp; omega) (by simp; omega) (fun b hb => by have := h4 b hb; simp; omega), fun b hb => ?_, h4, ?_, h6, h7, h8.trans q4 (fun x hx => .inr (by simp at hx; rcases hx with rfl | rfl <;> omega))⟩
  · rcases q3 b hb with e | e
    · exact h3 b e
    · omega
  · have := q4.size
    omega
theorem XY.swap (h : XY w0 w g mb g' mb' N L L') : XY w0 w g' mb' g mb N L' L := by
  obtain ⟨B, B', h1, h2, h3, h4, h5, h6, h7, h8⟩ := h
  exact ⟨B', B, h2, h1, h4, h3, by omega, by omega, by omega, h8⟩
theorem XY.sy (h : XY w0 w g mb g' mb' N L L') (v : Int) (hc : sendC 2 4 L' 0 16 = 0) : Calls Try.prog 10 #[.pointer (some ⟨g', 0, none⟩), .int .i64 0, .int .i64 16, .int .i64 v] w fun e w' => e = .returned (.int .i64 0) ∧ XY w0 w' g mb g' mb' N L (sendL 2 4 L' 0 16 v) :=
  (h.swap.sx v hc).mono fun e w' ⟨a, b⟩ => ⟨a, b.swap⟩
theorem XY.same (h : XY w0 w g mb g' mb' N L L') : Calls Try.prog 17 #[.pointer (some ⟨g, 0, none⟩), .pointer (some ⟨g', 0, none⟩)] w fun e w' => e = .returned (.bool (sameS 2 4 L nM0 2 4 L' nM0)) ∧ Only [] w0 w' := by
  obtain ⟨B, B', h1, h2, h3, h4, h5, h6, h7, h8⟩ := h
  exact (same_spec h1 h2).mono fun e w' ⟨a, b⟩ => ⟨a, h8.trans0 b⟩
end
theorem XY.new {w0 w1 w2 : World} {g mb g' mb' : Nat} (h : SG w1 g mb 2 4 [] nM0 []) (h' : SG w2 g' mb' 2 4 [] nM0 []) (o1 : Only [] w0 w1) (o2 : Only [] w1 w2) (h1 : w0.heap.size ≤ g ∧ w0.heap.size ≤ mb) (h2 : w1.heap.size ≤ g' ∧ w1.heap.size ≤ mb') : XY w0 w2 g mb g' mb' w2.heap.size [] [] := by
  have l1 := h.lt
  have l2 := h'.lt
  have s1 := o1.size
  have s2 := o2.size
  exact ⟨[], [], h.only0 o2, h', by simp, by simp, ⟨by omega, by omega, by omega, by omega, by omega⟩, ⟨by omega, by omega, by omega, by omega⟩, ⟨by omega, by omega, by omega, by omega⟩, o1.trans0 o2⟩

theorem n0 (V : World) (g mb : Nat) (B : List Nat) (h : SG V g mb 16 32 nL32 nM0 B) : Calls Try.prog 10 #[.pointer (some ⟨g, 0, none⟩), .int .i64 (0), .int .i64 (16), .int .i64 (1)] V fun e w' => e = .returned (.int .i64 5) ∧ (∃ B', SG w' g mb 16 32 nL32 nM0 B') ∧ Only [g, mb] V w' := by
  have := send_spec h (0) (16) (1)
  rw [show sendC 16 32 nL32 (0) (16) = 5 by decide +kernel, show sendL 16 32 nL32 (0) (16) (1) = nL32 by decide +kernel] at this
  exact this.mono fun e w' ⟨h1, ⟨B', h2, _⟩, h3⟩ => ⟨h1, ⟨B', h2⟩, h3⟩
theorem n1 (V : World) (g mb : Nat) (B : List Nat) (h : SG V g mb 16 32 nL32 nM0 B) : Calls Try.prog 10 #[.pointer (some ⟨g, 0, none⟩), .int .i64 (0), .int .i64 (15), .int .i64 (1)] V fun e w' => e = .returned (.int .i64 0) ∧ (∃ B', SG w' g mb 16 32 nL33 nM0 B') ∧ Only [g, mb] V w' := by
  have := send_spec h (0) (15) (1)
  rw [show sendC 16 32 nL32 (0) (15) = 0 by decide +kernel, show sendL 16 32 nL32 (0) (15) (1) = nL33 by decide +kernel] at this
  exact this.mono fun e w' ⟨h1, ⟨B', h2, _⟩, h3⟩ => ⟨h1, ⟨B', h2⟩, h3⟩
theorem n2 (V : World) (g mb : Nat) (B : List Nat) (h : SG V g mb 16 32 nL33 nM0 B) : Calls Try.prog 10 #[.pointer (some ⟨g, 0, none⟩), .int .i64 (0), .int .i64 (32), .int .i64 (1)] V fun e w' => e = .returned (.int .i64 2) ∧ (∃ B', SG w' g mb 16 32 nL33 nM0 B') ∧ Only [g, mb] V w' := by
  have := send_spec h (0) (32) (1)
  rw [show sendC 16 32 nL33 (0) (32) = 2 by decide +kernel, show sendL 16 32 nL33 (0) (32) (1) = nL33 by decide +kernel] at this
  exact this.mono fun e w' ⟨h1, ⟨B', h2, _⟩, h3⟩ => ⟨h1, ⟨B', h2⟩, h3⟩
theorem n3 (V : World) (g mb : Nat) (B : List Nat) (h : SG V g mb 16 32 nL33 nM0 B) : Calls Try.prog 10 #[.pointer (some ⟨g, 0, none⟩), .int .i64 (16), .int .i64 (1), .int .i64 (1)] V fun e w' => e = .returned (.int .i64 2) ∧ (∃ B', SG w' g mb 16 32 nL33 nM0 B') ∧ Only [g, mb] V w' := by
  have := send_spec h (16) (1) (1)
  rw [show sendC 16 32 nL33 (16) (1) = 2 by decide +kernel, show sendL 16 32 nL33 (16) (1) (1) = nL33 by decide +kernel] at this
  exact this.mono fun e w' ⟨h1, ⟨B', h2, _⟩, h3⟩ => ⟨h1, ⟨B', h2⟩, h3⟩
theorem n4 (V : World) (g mb : Nat) (B : List Nat) (h : SG V g mb 16 32 nL33 nM0 B) : Calls Try.prog 19 #[.pointer (some ⟨g, 0, none⟩), .int .i64 (15), .int .u32 4294967295] V fun e w' => e = .returned (.tuple #[.int .u32 0, .int .i64 0]) ∧ (∃ B', SG w' g mb 16 32 nL33 nM1 B') ∧ Only [g, mb] V w' := by
  have := setmask_any h 15 4294967295 (by decide)
  rw [show maskI nM0 16 15 = 0 by decide +kernel, show askC 16 15 = 0 by decide] at this
  exact this.mono fun e w' ⟨h1, h2, h3⟩ => ⟨h1, ⟨B, h2⟩, h3.mono (by simp)⟩
theorem n5 (V : World) (g mb : Nat) (B : List Nat) (h : SG V g mb 16 32 nL33 nM1 B) : Calls Try.prog 19 #[.pointer (some ⟨g, 0, none⟩), .int .i64 (15), .int .u32 1] V fun e w' => e = .returned (.tuple #[.int .u32 4294967294, .int .i64 0]) ∧ (∃ B', SG w' g mb 16 32 nL33 nM2 B') ∧ Only [g, mb] V w' := by
  have := setmask_any h 15 1 (by decide)
  rw [show maskI nM1 16 15 = 4294967294 by decide +kernel, show askC 16 15 = 0 by decide] at this
  exact this.mono fun e w' ⟨h1, h2, h3⟩ => ⟨h1, ⟨B, h2⟩, h3.mono (by simp)⟩
theorem n6 (V : World) (g mb : Nat) (B : List Nat) (h : SG V g mb 16 32 nL33 nM2 B) : Calls Try.prog 20 #[.pointer (some ⟨g, 0, none⟩), .int .i64 (15)] V fun e w' => e = .returned (.tuple #[.int .i64 32, .int .i64 0]) ∧ (∃ B', SG w' g mb 16 32 nL34 nM3 B') ∧ Only [g, mb] V w' := by
  have := clear_spec h 15
  rw [show (allI 16 nL33 15).length = 32 by decide +kernel, show askC 16 15 = 0 by decide] at this
  exact this.mono fun e w' ⟨h1, h2, h3⟩ => ⟨h1, ⟨B, h2⟩, h3⟩
theorem n7 (V : World) (g mb : Nat) (B : List Nat) (h : SG V g mb 16 32 nL34 nM3 B) : Calls Try.prog 12 #[.pointer (some ⟨g, 0, none⟩)] V fun e w' => e = .returned (.int .i64 0) ∧ (∃ B', SG w' g mb 16 32 nL34 nM3 B') ∧ Only [g, mb] V w' := by
  have := used_any h
  rw [show usedOf nL34 = 0 by decide +kernel] at this
  exact this.mono fun e w' ⟨h1, h2⟩ => by subst h2; exact ⟨h1, ⟨B, h⟩, Only.refl _ _⟩

set_option maxHeartbeats 16000000 in
theorem nil_walk (w : World) : Calls Try.prog 6 #[] w fun e w' => e = .returned (.bool true) ∧ Only [] w w' := by
  have NW := hide (show ∀ W, Calls Try.prog 8 #[.int .i64 16, .int .i64 32] W fun e w' => ∃ g mb, newE (ptr g) 0 e ∧ SG w' g mb 16 32 [] (fun _ => 0) [] ∧ W.heap.size ≤ g ∧ W.heap.size ≤ mb ∧ Only [] W w' from fun W => new_good 16 32 (by decide) (by decide) (by decide) (by decide) W)
  have NX := hide (show ∀ W, Calls Try.prog 8 #[.int .i64 2, .int .i64 4] W fun e w' => ∃ g mb, newE (ptr g) 0 e ∧ SG w' g mb 2 4 [] (fun _ => 0) [] ∧ W.heap.size ≤ g ∧ W.heap.size ≤ mb ∧ Only [] W w' from fun W => new_good 2 4 (by decide) (by decide) (by decide) (by decide) W)
  have NY := NX
  have NA := hide (fun W => new_bad 17 1 (by unfold okSize; omega) W)
  have NB := hide (fun W => new_bad 1 33 (by unfold okSize; omega) W)
  have NC := hide (fun W => new_bad 0 1 (by unfold okSize; omega) W)
  have ND := hide (fun W => new_bad 1 0 (by unfold okSize; omega) W)
  go_enter Try.func6, Try.ntmps6
  go_wp2_with (go_at_call 8; (with_reducible refine (NW.out _).mono ?_); rintro e w0 ⟨g, mb, he, hS, hg, hm, o⟩; unfold newE ptr at he; subst he; have S0 := hide hS; have HG := hide (show w.heap.size ≤ g ∧ w.heap.size ≤ mb from ⟨hg, hm⟩); have O0 := hide o; clear hS hg hm o)
  go_loopw [3] (fun vi wr => ∃ i : Nat, i ≤ 32 ∧ vi = .int .i64 i ∧ Hid (∃ B, SG wr g mb 16 32 (nL i) nM0 B) ∧ Hid (Only [] w wr)) (fun vi _ => 32 - (intOf vi).toNat)
  case atStart => exact ⟨0, by omega, rfl, hide ⟨_, S0.out⟩, O0⟩
  case round =>
    obtain ⟨i, hi, rfl, hS, hO⟩ := hrel
    clear S0 O0
    by_cases hlt : i < 32
    · obtain ⟨B, hB⟩ := hS.out
      obtain ⟨e0, e1⟩ := nL_send i hlt
      have SD := send_spec hB 15 31 (i : Int)
      rw [e0, e1] at SD
      have SD := hide SD
      have i1 : (i : Int) < 32 := by omega
      unfold ptr at SD
      clear hB e0 e1
      go_wp2_with (first
        | (go_at_call 10; (with_reducible refine SD.out.mono ?_); rintro e w3 ⟨rfl, ⟨B', S', _⟩, o'⟩; have O' := hide (hO.out.trans o' (fun x hx => .inr (by have := HG.out; simp at hx; omega))); have S' := hide S'; clear o')
        | (go_at_call 9; refine (num_any _ _).mono ?_; rintro e w' ⟨rfl, hw⟩; obtain rfl := hw.symm; clear hw))
      go_roundw
      case rel => exact ⟨i + 1, by omega, by go_num, hide ⟨_, S'.out⟩, O'⟩
      case measure => simp [intOf]; omega
    · obtain rfl : i = 32 := by omega
      obtain ⟨B0, hB0⟩ := hS.out
      have OZ0 := hO
      have C0 := hide (n0 wr g mb B0 hB0)
      clear hB0 hS hO
      go_wp2_with (first
        | (go_at_call 9; refine (num_any _ _).mono ?_; rintro e w' ⟨rfl, hw⟩; obtain rfl := hw.symm; clear hw)
        | (go_at_call 10; (with_reducible refine C0.out.mono ?_); rintro e w1 ⟨rfl, ⟨B1, S1⟩, o1⟩; have OZ1 := hide (OZ0.out.trans o1 (fun x hx => .inr (by have := HG.out; simp at hx; omega))); have C1 := hide (n1 w1 g mb B1 S1); have SZ1 := hide S1; clear C0 S1 o1)
        | (go_at_call 10; (with_reducible refine C1.out.mono ?_); rintro e w2 ⟨rfl, ⟨B2, S2⟩, o2⟩; have OZ2 := hide (OZ1.out.trans o2 (fun x hx => .inr (by have := HG.out; simp at hx; omega))); have C2 := hide (n2 w2 g mb B2 S2); have SZ2 := hide S2; clear C1 S2 o2)
        | (go_at_call 10; (with_reducible refine C2.out.mono ?_); rintro e w3 ⟨rfl, ⟨B3, S3⟩, o3⟩; have OZ3 := hide (OZ2.out.trans o3 (fun x hx => .inr (by have := HG.out; simp at hx; omega))); have C3 := hide (n3 w3 g mb B3 S3); have SZ3 := hide S3; clear C2 S3 o3)
        | (go_at_call 10; (with_reducible refine C3.out.mono ?_); rintro e w4 ⟨rfl, ⟨B4, S4⟩, o4⟩; have OZ4 := hide (OZ3.out.trans o4 (fun x hx => .inr (by have := HG.out; simp at hx; omega))); have SZ4 := hide S4; clear C3 S4 o4)
        | (go_at_call 8; (with_reducible refine (NX.out _).mono ?_); rintro e w5 ⟨g2, mb2, he, X1, hg, hm, o5⟩; unfold newE ptr at he; subst he; have X1 := hide X1; have O5 := hide o5; have H2 := hide (show w4.heap.size ≤ g2 ∧ w4.heap.size ≤ mb2 from ⟨hg, hm⟩); clear NX hg hm o5)
        | (go_at_call 8; (with_reducible refine (NY.out _).mono ?_); rintro e w6 ⟨g3, mb3, he, Y1, hg, hm, o6⟩; unfold newE ptr at he; subst he; have XY0 := hide (XY.new X1.out Y1 O5.out o6 H2.out ⟨hg, hm⟩); have D0 := hide (XY0.out.sx 1 (by decide)); clear NY hg hm o6 Y1)
        | (go_at_call 10; (with_reducible refine D0.out.mono ?_); rintro e w7 ⟨rfl, XY1⟩; have D1 := hide (XY1.sx 2 (by decide)); clear D0 XY1)
        | (go_at_call 10; (with_reducible refine D1.out.mono ?_); rintro e w8 ⟨rfl, XY2⟩; have D2 := hide (XY2.sy 2 (by decide)); clear D1 XY2)
        | (go_at_call 10; (with_reducible refine D2.out.mono ?_); rintro e w9 ⟨rfl, XY3⟩; have D3 := hide (XY3.sy 1 (by decide)); clear D2 XY3)
        | (go_at_call 10; (with_reducible refine D3.out.mono ?_); rintro e w10 ⟨rfl, XY4⟩; have D4 := XY4.same; rw [show sameS 2 4 _ nM0 2 4 _ nM0 = false by decide +kernel] at D4; have D4 := hide D4; clear D3 XY4)
        | (go_at_call 17; (with_reducible refine D4.out.mono ?_); rintro e w11 ⟨rfl, o11⟩; have OZ5 := hide (OZ4.out.trans0 o11); obtain ⟨B5, S5⟩ : ∃ B, SG w11 g mb 16 32 nL33 nM0 B := ⟨_, SZ4.out.only0 o11⟩; have C4 := hide (n4 w11 g mb B5 S5); clear D4 o11 S5)
        | (go_at_call 8; (with_reducible refine (NA.out _).mono ?_); rintro e w' ⟨he, hw⟩; obtain rfl := hw.symm; clear hw; unfold newE at he; subst he)
        | (go_at_call 8; (with_reducible refine (NB.out _).mono ?_); rintro e w' ⟨he, hw⟩; obtain rfl := hw.symm; clear hw; unfold newE at he; subst he)
        | (go_at_call 8; (with_reducible refine (NC.out _).mono ?_); rintro e w' ⟨he, hw⟩; obtain rfl := hw.symm; clear hw; unfold newE at he; subst he)
        | (go_at_call 8; (with_reducible refine (ND.out _).mono ?_); rintro e w' ⟨he, hw⟩; obtain rfl := hw.symm; clear hw; unfold newE at he; subst he)
        | (go_at_call 19; (with_reducible refine C4.out.mono ?_); rintro e w12 ⟨rfl, ⟨B12, S12⟩, o12⟩; have OZ6 := hide (OZ5.out.trans o12 (fun x hx => .inr (by have := HG.out; simp at hx; omega))); have C5 := hide (n5 w12 g mb B12 S12); have SZ12 := hide S12; clear C4 S12 o12)
        | (go_at_call 19; (with_reducible refine C5.out.mono ?_); rintro e w13 ⟨rfl, ⟨B13, S13⟩, o13⟩; have OZ7 := hide (OZ6.out.trans o13 (fun x hx => .inr (by have := HG.out; simp at hx; omega))); have C6 := hide (n6 w13 g mb B13 S13); have SZ13 := hide S13; clear C5 S13 o13)
        | (go_at_call 20; (with_reducible refine C6.out.mono ?_); rintro e w14 ⟨rfl, ⟨B14, S14⟩, o14⟩; have OZ8 := hide (OZ7.out.trans o14 (fun x hx => .inr (by have := HG.out; simp at hx; omega))); have C7 := hide (n7 w14 g mb B14 S14); have SZ14 := hide S14; clear C6 S14 o14)
        | (go_at_call 12; (with_reducible refine C7.out.mono ?_); rintro e w15 ⟨rfl, ⟨B15, S15⟩, o15⟩; have OZ9 := hide (OZ8.out.trans o15 (fun x hx => .inr (by have := HG.out; simp at hx; omega))); have SZ15 := hide S15; clear C7 S15 o15)
        | (go_at_call 21; (with_reducible refine (nothing_nil _).mono ?_); rintro e w16 ⟨rfl, o16⟩; have OZ10 := hide ((OZ9.out.trans0 o16).alloc (.cells #[.int .i64 0, .int .i64 0, .int .i64 0, .int .u32 0, .int .u32 0, .int .u32 0, .int .u32 0, .int .u32 0, .int .u32 0, .int .u32 0, .int .u32 0, .int .u32 0, .int .u32 0, .int .u32 0, .int .u32 0, .int .u32 0, .int .u32 0, .int .u32 0, .int .u32 0, .int .u32 0, .int .u32 0, .int .u32 0, .int .u32 0, .int .u32 0, .int .u32 0, .int .u32 0, .int .u32 0, .int .u32 0, .int .u32 0, .int .u32 0, .int .u32 0, .int .u32 0, .int .u32 0, .int .u32 0, .int .u32 0, .map none] 61)); have zz := (Blk.new w16 61 #[.int .i64 0, .int .i64 0, .int .i64 0, .int .u32 0, .int .u32 0, .int .u32 0, .int .u32 0, .int .u32 0, .int .u32 0, .int .u32 0, .int .u32 0, .int .u32 0, .int .u32 0, .int .u32 0, .int .u32 0, .int .u32 0, .int .u32 0, .int .u32 0, .int .u32 0, .int .u32 0, .int .u32 0, .int .u32 0, .int .u32 0, .int .u32 0, .int .u32 0, .int .u32 0, .int .u32 0, .int .u32 0, .int .u32 0, .int .u32 0, .int .u32 0, .int .u32 0, .int .u32 0, .int .u32 0, .int .u32 0, .map none]).cell 35; have NZ := hide (nothing_zero w16.heap.size (w16.alloc (.cells #[.int .i64 0, .int .i64 0, .int .i64 0, .int .u32 0, .int .u32 0, .int .u32 0, .int .u32 0, .int .u32 0, .int .u32 0, .int .u32 0, .int .u32 0, .int .u32 0, .int .u32 0, .int .u32 0, .int .u32 0, .int .u32 0, .int .u32 0, .int .u32 0, .int .u32 0, .int .u32 0, .int .u32 0, .int .u32 0, .int .u32 0, .int .u32 0, .int .u32 0, .int .u32 0, .int .u32 0, .int .u32 0, .int .u32 0, .int .u32 0, .int .u32 0, .int .u32 0, .int .u32 0, .int .u32 0, .int .u32 0, .map none] 61)) (zz.trans rfl)); have SZ16 := hide ((SZ15.out.only0 o16).only0 ((Only.refl [] w16).alloc (.cells #[.int .i64 0, .int .i64 0, .int .i64 0, .int .u32 0, .int .u32 0, .int .u32 0, .int .u32 0, .int .u32 0, .int .u32 0, .int .u32 0, .int .u32 0, .int .u32 0, .int .u32 0, .int .u32 0, .int .u32 0, .int .u32 0, .int .u32 0, .int .u32 0, .int .u32 0, .int .u32 0, .int .u32 0, .int .u32 0, .int .u32 0, .int .u32 0, .int .u32 0, .int .u32 0, .int .u32 0, .int .u32 0, .int .u32 0, .int .u32 0, .int .u32 0, .int .u32 0, .int .u32 0, .int .u32 0, .int .u32 0, .map none] 61))); clear o16 zz)
        | (go_at_call 21; (with_reducible refine NZ.out.mono ?_); rintro e w17 ⟨rfl, o17⟩; have OZ11 := hide (OZ10.out.trans0 o17); have SM := hide (same_no (some ⟨g, 0, none⟩) none true false w17 (SZ16.out.only0 o17).asks (NoSig.nil w17).asks rfl (by simp)); clear o17 NZ)
        | (go_at_call 17; (with_reducible refine SM.out.mono ?_); rintro e w' ⟨rfl, hw⟩; obtain rfl := hw.symm; clear hw SM)
        | (go_at_call 7; refine (known_any _).mono ?_; rintro e w18 ⟨rfl, o18⟩; have OZ12 := hide (OZ11.out.trans0 o18); clear o18))
      go_ret
      exact ⟨rfl, OZ12.out⟩
end Go.Proofs.Ytnmlcijkggfhmaa
