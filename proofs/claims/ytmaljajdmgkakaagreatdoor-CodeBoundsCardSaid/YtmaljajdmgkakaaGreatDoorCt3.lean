/- Code: the walks of the document's List, of At, of both Sames. Condition: the programs' cells. -/
import Derived.Test.YtmaljajdmgkakaaGreatDoorCt2
import Derived.Laws.StructEq
import Derived.BigRegion
namespace Go.Proofs.YtmaljajdmgkakaaGreatDoor
open Go.RowKit
set_option linter.unusedVariables false
set_option linter.all false
set_option maxRecDepth 20000

set_option maxHeartbeats 4000000 in
theorem rlist_good (A : Option Addr) (n c : Nat) (f : Nat → Ins) (w : World) (he : Env w) (hA : InsAt w A n f) (hg : Good n f) : Calls Tryz.prog 18 #[.slice A n c] w fun e w' => e = .returned (.string (bs (listB f n))) ∧ Only [] w w' := by
  have hn := hg.len
  have HA := hide hA
  have HE := hide he
  have HG := hide hg
  clear hA he hg
  go_enter Tryz.func18, Tryz.ntmps18
  go_wp2_with fail
  go_loopw [3, 4] (fun v3 v4 wr => ∃ q : Nat, q ≤ n ∧ v3 = .string (bs (listB f q)) ∧ v4 = .int .i64 q ∧ Hid (Only [] w wr)) (fun _ v4 _ => n - (intOf v4).toNat)
  case atStart => exact ⟨0, by omega, rfl, rfl, hide (Only.refl _ _)⟩
  case round =>
    obtain ⟨q, hq, rfl, rfl, hO⟩ := hrel
    by_cases hqn : q < n
    · obtain ⟨a, rfl, e0, e1, e2, e3, e4⟩ := HA.out q hqn
      have c0 := hO.out.keep0 e0
      have c1 := hO.out.keep0 e1
      have c2 := hO.out.keep0 e2
      have c3 := hO.out.keep0 e3
      have c4 := hO.out.keep0 e4
      have j0 : (0 : Int) ≤ (q : Int) := by omega
      have j1 : (q : Int) < (n : Int) := by omega
      have him := HG.out.imm q hqn
      have LN := rline_any (f q) wr (HE.out.only hO.out) (HG.out.may256 hqn) him.1 him.2
      have hst := hide (show listB f (q + 1) = listB f q ++ (lineB (f q) ++ [10]) from rfl)
      have hll := listB_len f q
      have hl2 := lineB_len (f q)
      obtain ⟨o, ho⟩ : ∃ x, (f q).op = x := ⟨_, rfl⟩
      obtain ⟨d, hd⟩ : ∃ x, (f q).d = x := ⟨_, rfl⟩
      obtain ⟨a', ha⟩ : ∃ x, (f q).a = x := ⟨_, rfl⟩
      obtain ⟨b', hb'⟩ : ∃ x, (f q).b = x := ⟨_, rfl⟩
      obtain ⟨m, hm⟩ : ∃ x, (f q).imm = x := ⟨_, rfl⟩
      unfold insV at LN
      rw [ho, hd, ha, hb', hm] at LN
      rw [ho] at c0
      rw [hd] at c1
      rw [ha] at c2
      rw [hb'] at c3
      rw [hm] at c4
      have es1 : bs (listB f q) ++ bs (lineB (f q)) = bs (listB f q ++ lineB (f q)) := bs_app _ _
      have es2 : bs (listB f q ++ lineB (f q)) ++ (⟨#[10]⟩ : ByteArray) = bs (listB f (q + 1)) := by rw [hst.out, ← List.append_assoc]; exact bs_app _ [10]
      have z1 : ¬ 9223372036854775807 < (bs (listB f q)).size + (bs (lineB (f q))).size := by rw [bs_size, bs_size]; omega
      have z2 : ¬ 9223372036854775807 < (bs (listB f q ++ lineB (f q))).size + (⟨#[10]⟩ : ByteArray).size := by rw [bs_size, show (⟨#[10]⟩ : ByteArray).size = 1 from rfl]; simp; omega
      obtain ⟨s0, hs0⟩ : ∃ x, bs (listB f q) = x := ⟨_, rfl⟩
      obtain ⟨sl, hsl⟩ : ∃ x, bs (lineB (f q)) = x := ⟨_, rfl⟩
      obtain ⟨s1, hs1⟩ : ∃ x, bs (listB f q ++ lineB (f q)) = x := ⟨_, rfl⟩
      obtain ⟨s2, hs2⟩ : ∃ x, bs (listB f (q + 1)) = x := ⟨_, rfl⟩
      rw [hs0, hsl, hs1] at es1
      rw [hs1, hs2] at es2
      rw [hs0, hsl] at z1
      rw [hs1] at z2
      rw [hsl] at LN
      rw [hs0]
      have LN := hide LN
      have HS2 := hide hs2
      clear e0 e1 e2 e3 e4 him ho hd ha hb' hm hs0 hsl hs1 hs2 hll hl2
      go_wp2_with (go_at_call 52; (with_reducible refine LN.out.mono ?_); rintro e w3 ⟨rfl, o3⟩; have O3 := hide (hO.out.trans0 o3); clear o3)
      go_roundw
      case rel => exact ⟨q + 1, by omega, by rw [HS2.out], by go_num, O3⟩
      case measure => simp [intOf]; omega
    · obtain rfl : q = n := by omega
      clear hqn hq
      go_wp2_with fail
      go_ret
      exact ⟨rfl, hO.out⟩
def insEq (i j : Ins) : Bool := i.op == j.op && (i.d == j.d && (i.a == j.a && (i.b == j.b && i.imm == j.imm)))
theorem insEq_iff (i j : Ins) : insEq i j = true ↔ i = j := by
  obtain ⟨a, b, c, d, e⟩ := i
  obtain ⟨a', b', c', d', e'⟩ := j
  simp [insEq]
theorem insEq_self (i : Ins) : insEq i i = true := (insEq_iff i i).2 rfl
theorem neq25 (a1 a2 a3 a4 a5 b1 b2 b3 b4 b5 : Int) (W : World) : (binOp .neq 25 (.agg #[.int .i64 a1, .int .i64 a2, .int .i64 a3, .int .i64 a4, .int .i64 a5]) (.agg #[.int .i64 b1, .int .i64 b2, .int .i64 b3, .int .i64 b4, .int .i64 b5])).run Tryz.prog W = .ok (.bool (!(a1 == b1 && (a2 == b2 && (a3 == b3 && (a4 == b4 && a5 == b5)))))) W := by
  by_cases h1 : a1 = b1 <;> by_cases h2 : a2 = b2 <;> by_cases h3 : a3 = b3 <;> by_cases h4 : a4 = b4 <;> by_cases h5 : a5 = b5 <;> simp [go_sem, h1, h2, h3, h4, h5]
theorem load25 {w : World} {g : Nat} {a b c d e : Value} (h : Blk w g 25 #[a, b, c, d, e]) : (loadVar 25 ⟨g, 0, none⟩).run Tryz.prog w = .ok (.agg #[a, b, c, d, e]) w := by
  have x0 := h.cell 0
  have x1 := h.cell 1
  have x2 := h.cell 2
  have x3 := h.cell 3
  have x4 := h.cell 4
  simp [go_sem, x0, x1, x2, x3, x4]
/-- The instruction at a place. -/
def atI (n : Nat) (f : Nat → Ins) (pc : Int) : Ins := if 0 ≤ pc ∧ pc < n then f pc.toNat else ⟨0, 0, 0, 0, 0⟩
set_option maxHeartbeats 2000000 in
theorem at_any (A : Option Addr) (n c : Nat) (f : Nat → Ins) (pc : Int) (w : World) (hA : InsAt w A n f) : Calls Tryz.prog 16 #[.slice A n c, .int .i64 pc] w fun e w' => e = .returned (.agg (insV (atI n f pc))) ∧ Only [] w w' := by
  have HB := Blk.new w 25 #[.int .i64 0, .int .i64 0, .int .i64 0, .int .i64 0, .int .i64 0]
  have o1 := (Only.refl [] w).alloc (.cells #[.int .i64 0, .int .i64 0, .int .i64 0, .int .i64 0, .int .i64 0] 25)
  by_cases hp : 0 ≤ pc ∧ pc < n
  · obtain ⟨k, rfl⟩ : ∃ k : Nat, pc = k := ⟨pc.toNat, by omega⟩
    have hi := hide (show atI n f k = f k by unfold atI; rw [if_pos hp]; rfl)
    obtain ⟨a, rfl, e0, e1, e2, e3, e4⟩ := hA k (by omega)
    have c0 := o1.keep0 e0
    have c1 := o1.keep0 e1
    have c2 := o1.keep0 e2
    have c3 := o1.keep0 e3
    have c4 := o1.keep0 e4
    obtain ⟨⟨o, d, a', b', m⟩, hfk⟩ : ∃ x, f k = x := ⟨_, rfl⟩
    rw [hfk] at c0 c1 c2 c3 c4
    have HF := hide hfk
    have j0 : (0 : Int) ≤ (k : Int) := by omega
    have j1 : (k : Int) < (n : Int) := by omega
    have j3 : decide ((n : Int) ≤ (k : Int)) = false := decide_eq_false (by omega)
    have j4 : decide (n ≤ k) = false := decide_eq_false (by omega)
    have j5 : decide ((k : Int) < 0) = false := decide_eq_false (by omega)
    clear hA hp e0 e1 e2 e3 e4 hfk HB o1
    go_enter Tryz.func16, Tryz.ntmps16
    go_wp2_with fail
    refine bodyPost_ret (v := .agg #[.int .i64 o, .int .i64 d, .int .i64 a', .int .i64 b', .int .i64 m]) (results_cell Tryz.results16 rfl (load25 (Blk.new w 25 _))) rfl ⟨by rw [hi.out, HF.out]; rfl, (Only.refl [] w).alloc _⟩
  · have hi := hide (show atI n f pc = ⟨0, 0, 0, 0, 0⟩ by unfold atI; rw [if_neg hp])
    rcases (show pc < 0 ∨ (¬ pc < 0 ∧ (n : Int) ≤ pc) by omega) with h | ⟨h, h'⟩
    · have j0 : decide (pc < 0) = true := decide_eq_true h
      clear hA hp h HB o1
      go_enter Tryz.func16, Tryz.ntmps16
      go_wp2_with fail
      refine bodyPost_ret (v := .agg #[.int .i64 0, .int .i64 0, .int .i64 0, .int .i64 0, .int .i64 0]) (results_cell Tryz.results16 rfl (load25 (Blk.new w 25 _))) rfl ⟨by rw [hi.out]; rfl, (Only.refl [] w).alloc _⟩
    · have j0 : decide (pc < 0) = false := decide_eq_false h
      have j1 : decide ((n : Int) ≤ pc) = true := decide_eq_true h'
      clear hA hp h h' HB o1
      go_enter Tryz.func16, Tryz.ntmps16
      go_wp2_with fail
      refine bodyPost_ret (v := .agg #[.int .i64 0, .int .i64 0, .int .i64 0, .int .i64 0, .int .i64 0]) (results_cell Tryz.results16 rfl (load25 (Blk.new w 25 _))) rfl ⟨by rw [hi.out]; rfl, (Only.refl [] w).alloc _⟩
/-- Whether two programs are the same. -/
def sameB (n : Nat) (f : Nat → Ins) (m : Nat) (g : Nat → Ins) : Bool := decide (n = m) && decide (fb (fun k => !insEq (f k) (g k)) n = -1)
set_option maxHeartbeats 4000000 in
theorem rsame_any (A : Option Addr) (n c : Nat) (f : Nat → Ins) (B : Option Addr) (m c' : Nat) (g : Nat → Ins) (w : World) (hA : InsAt w A n f) (hB : InsAt w B m g) (hn : n ≤ maxLen) : Calls Tryz.prog 17 #[.slice A n c, .slice B m c'] w fun e w' => e = .returned (.bool (sameB n f m g)) ∧ Only [] w w' := by
  unfold maxLen at hn
  by_cases hnm : n = m
  · subst hnm
    have HA := hide hA
    have HB := hide hB
    have e0 : ((n : Int) != (n : Int)) = false := by simp
    clear hA hB
    go_enter Tryz.func17, Tryz.ntmps17
    go_wp2_with fail
    go_loopw [5] (fun v4 wr => ∃ q : Nat, q ≤ n ∧ v4 = .int .i64 q ∧ Hid (∀ j, j < q → (!insEq (f j) (g j)) = false) ∧ Hid (Only [] w wr)) (fun v4 _ => n - (intOf v4).toNat)
    case atStart => exact ⟨0, by omega, rfl, hide (fun j hj => by omega), hide (Only.refl _ _)⟩
    case round =>
      obtain ⟨q, hq, rfl, hz, hO⟩ := hrel
      by_cases hqn : q < n
      · obtain ⟨a, rfl, e0, e1, e2, e3, e4⟩ := HA.out q hqn
        obtain ⟨b, rfl, f0, f1, f2, f3, f4⟩ := HB.out q hqn
        have c0 := hO.out.keep0 e0
        have c1 := hO.out.keep0 e1
        have c2 := hO.out.keep0 e2
        have c3 := hO.out.keep0 e3
        have c4 := hO.out.keep0 e4
        have d0 := hO.out.keep0 f0
        have d1 := hO.out.keep0 f1
        have d2 := hO.out.keep0 f2
        have d3 := hO.out.keep0 f3
        have d4 := hO.out.keep0 f4
        have j0 : (0 : Int) ≤ (q : Int) := by omega
        have j1 : (q : Int) < (n : Int) := by omega
        have NQ := neq25 (f q).op (f q).d (f q).a (f q).b (f q).imm (g q).op (g q).d (g q).a (g q).b (g q).imm
        obtain ⟨z, hz'⟩ : ∃ z, insEq (f q) (g q) = z := ⟨_, rfl⟩
        have NQ' := fun W => (NQ W).trans (by rw [show ((f q).op == (g q).op && ((f q).d == (g q).d && ((f q).a == (g q).a && ((f q).b == (g q).b && (f q).imm == (g q).imm)))) = z from hz'])
        have HZ := hide hz'
        clear e0 e1 e2 e3 e4 f0 f1 f2 f3 f4 hz' NQ
        cases z with
        | true =>
          go_wp2_with fail
          go_quiet (fail)
          go_wp2_with fail
          go_roundw
          case rel => exact ⟨q + 1, by omega, by go_num, hide (fun j hj => by
            rcases (by omega : j < q ∨ j = q) with h | h
            · exact hz.out j h
            · subst h; rw [HZ.out]; rfl), hide (hO.out.drewN _)⟩
          case measure => simp [intOf]; omega
        | false =>
          have hfb := hide (fb_at (g := fun k => !insEq (f k) (g k)) hqn (by show (!insEq (f q) (g q)) = true; rw [HZ.out]; rfl) hz.out)
          go_wp2_with fail
          go_quiet (fail)
          go_wp2_with fail
          go_ret
          exact ⟨by unfold sameB; rw [hfb.out]; simp <;> (first | rfl | omega | exact (by intro h; omega)), hO.out.drewN _⟩
      · obtain rfl : q = n := by omega
        have hfb := hide (fb_none (g := fun k => !insEq (f k) (g k)) hz.out)
        go_wp2_with fail
        go_ret
        exact ⟨by unfold sameB; rw [hfb.out]; simp <;> rfl, hO.out⟩
  · have e0 : ((n : Int) != (m : Int)) = true := by simp; omega
    have e1 : ¬ ((n : Int) = (m : Int)) := by omega
    clear hA hB
    go_enter Tryz.func17, Tryz.ntmps17
    go_wp2_with fail
    go_ret
    exact ⟨by unfold sameB; rw [decide_eq_false hnm]; rfl, Only.refl _ _⟩
set_option maxHeartbeats 4000000 in
theorem equal_any (A : Option Addr) (n c : Nat) (f : Nat → Ins) (B : Option Addr) (m c' : Nat) (g : Nat → Ins) (w : World) (hA : InsAt w A n f) (hB : InsAt w B m g) (hn : n ≤ maxLen) : Calls Tryz.prog 55 #[.slice A n c, .slice B m c'] w fun e w' => e = .returned (.bool (sameB n f m g)) ∧ Only [] w w' := by
  unfold maxLen at hn
  by_cases hnm : n = m
  · subst hnm
    have HA := hide hA
    have HB := hide hB
    have e0 : ((n : Int) != (n : Int)) = false := by simp
    clear hA hB
    go_enter Tryz.func55, Tryz.ntmps55
    go_wp2_with fail
    go_loopw [13] (fun v4 wr => ∃ q : Nat, q ≤ n ∧ v4 = .int .i64 q ∧ Hid (∀ j, j < q → (!insEq (f j) (g j)) = false) ∧ Hid (Only [] w wr)) (fun v4 _ => n - (intOf v4).toNat)
    case atStart => exact ⟨0, by omega, rfl, hide (fun j hj => by omega), hide (Only.refl _ _)⟩
    case round =>
      obtain ⟨q, hq, rfl, hz, hO⟩ := hrel
      by_cases hqn : q < n
      · obtain ⟨a, rfl, e0, e1, e2, e3, e4⟩ := HA.out q hqn
        obtain ⟨b, rfl, f0, f1, f2, f3, f4⟩ := HB.out q hqn
        have c0 := hO.out.keep0 e0
        have c1 := hO.out.keep0 e1
        have c2 := hO.out.keep0 e2
        have c3 := hO.out.keep0 e3
        have c4 := hO.out.keep0 e4
        have d0 := hO.out.keep0 f0
        have d1 := hO.out.keep0 f1
        have d2 := hO.out.keep0 f2
        have d3 := hO.out.keep0 f3
        have d4 := hO.out.keep0 f4
        have j0 : (0 : Int) ≤ (q : Int) := by omega
        have j1 : (q : Int) < (n : Int) := by omega
        have NQ := neq25 (f q).op (f q).d (f q).a (f q).b (f q).imm (g q).op (g q).d (g q).a (g q).b (g q).imm
        obtain ⟨z, hz'⟩ : ∃ z, insEq (f q) (g q) = z := ⟨_, rfl⟩
        have NQ' := fun W => (NQ W).trans (by rw [show ((f q).op == (g q).op && ((f q).d == (g q).d && ((f q).a == (g q).a && ((f q).b == (g q).b && (f q).imm == (g q).imm)))) = z from hz'])
        have HZ := hide hz'
        clear e0 e1 e2 e3 e4 f0 f1 f2 f3 f4 hz' NQ
        cases z with
        | true =>
          go_wp2_with fail
          go_quiet (fail)
          go_wp2_with fail
          go_roundw
          case rel => exact ⟨q + 1, by omega, by go_num, hide (fun j hj => by
            rcases (by omega : j < q ∨ j = q) with h | h
            · exact hz.out j h
            · subst h; rw [HZ.out]; rfl), hide (hO.out.drewN _)⟩
          case measure => simp [intOf]; omega
        | false =>
          have hfb := hide (fb_at (g := fun k => !insEq (f k) (g k)) hqn (by show (!insEq (f q) (g q)) = true; rw [HZ.out]; rfl) hz.out)
          go_wp2_with fail
          go_quiet (fail)
          go_wp2_with fail
          go_ret
          exact ⟨by unfold sameB; rw [hfb.out]; simp <;> (first | rfl | omega | exact (by intro h; omega)), hO.out.drewN _⟩
      · obtain rfl : q = n := by omega
        have hfb := hide (fb_none (g := fun k => !insEq (f k) (g k)) hz.out)
        go_wp2_with fail
        go_ret
        exact ⟨by unfold sameB; rw [hfb.out]; simp <;> rfl, hO.out⟩
  · have e0 : ((n : Int) != (m : Int)) = true := by simp; omega
    have e1 : ¬ ((n : Int) = (m : Int)) := by omega
    clear hA hB
    go_enter Tryz.func55, Tryz.ntmps55
    go_wp2_with fail
    go_ret
    exact ⟨by unfold sameB; rw [decide_eq_false hnm]; rfl, Only.refl _ _⟩
theorem same_any (A : Option Addr) (n c : Nat) (f : Nat → Ins) (B : Option Addr) (m c' : Nat) (g : Nat → Ins) (w : World) (hA : InsAt w A n f) (hB : InsAt w B m g) (hn : n ≤ maxLen) : Calls Tryz.prog 20 #[.slice A n c, .slice B m c'] w fun e w' => e = .returned (.bool (sameB n f m g)) ∧ Only [] w w' := by
  have EQ := hide (equal_any A n c f B m c' g w hA hB hn)
  obtain ⟨z, hz⟩ : ∃ z, sameB n f m g = z := ⟨_, rfl⟩
  rw [hz] at EQ ⊢
  clear hA hB hz
  go_enter Tryz.func20, Tryz.ntmps20
  go_wp2_with (go_at_call 55; (with_reducible refine EQ.out.mono ?_); rintro e w1 ⟨rfl, o⟩; have O2 := hide o; clear o)
  go_ret
  exact ⟨rfl, O2.out⟩
end Go.Proofs.YtmaljajdmgkakaaGreatDoor
