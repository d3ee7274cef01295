/- Code: programs in memory; the walks of Check, of the document's Check. Condition: the program's cells. -/
import Derived.Test.YteblhklclcjonaaGreatDoorCdK
import Derived.Test.YteblhklclcjonaaGreatDoorCd4
namespace Go.Proofs.YteblhklclcjonaaGreatDoor
open Go.RowKit
set_option linter.unusedVariables false
set_option linter.all false
set_option maxRecDepth 20000

/-- A program of n instructions at a place. -/
def InsAt (w : World) (A : Option Addr) (n : Nat) (f : Nat → Ins) : Prop := ∀ k, k < n → ∃ a : Addr, A = some a ∧ w.cell? (a.add (k * 5)) = some (.int .i64 (f k).op) ∧ w.cell? ⟨(a.add (k * 5)).block, (a.add (k * 5)).off + 1, none⟩ = some (.int .i64 (f k).d) ∧ w.cell? ⟨(a.add (k * 5)).block, (a.add (k * 5)).off + 2, none⟩ = some (.int .i64 (f k).a) ∧ w.cell? ⟨(a.add (k * 5)).block, (a.add (k * 5)).off + 3, none⟩ = some (.int .i64 (f k).b) ∧ w.cell? ⟨(a.add (k * 5)).block, (a.add (k * 5)).off + 4, none⟩ = some (.int .i64 (f k).imm)
theorem InsAt.only0 {w W : World} {A : Option Addr} {n : Nat} {f : Nat → Ins} (h : InsAt w A n f) (o : Only [] w W) : InsAt W A n f := fun k hk => by
  obtain ⟨a, h0, h1, h2, h3, h4, h5⟩ := h k hk
  exact ⟨a, h0, o.keep0 h1, o.keep0 h2, o.keep0 h3, o.keep0 h4, o.keep0 h5⟩
/-- The first number under n at which g holds; -1: none. -/
def fbN (g : Nat → Bool) : Nat → Nat → Int
  | _, 0 => -1
  | q, n + 1 => if g q then q else fbN g (q + 1) n
theorem fbN_none (g : Nat → Bool) : ∀ n q, (∀ j, q ≤ j → j < q + n → g j = false) → fbN g q n = -1
  | 0, _, _ => rfl
  | n + 1, q, h => by
    unfold fbN
    rw [h q (by omega) (by omega)]
    simp only [Bool.false_eq_true, if_false]
    exact fbN_none g n (q + 1) (fun j h1 h2 => h j (by omega) (by omega))
theorem fbN_at (g : Nat → Bool) : ∀ n q k, q ≤ k → k < q + n → g k = true → (∀ j, q ≤ j → j < k → g j = false) → fbN g q n = k
  | 0, q, k, h1, h2, _, _ => by omega
  | n + 1, q, k, h1, h2, h3, h4 => by
    unfold fbN
    by_cases hqk : q = k
    · subst hqk; rw [h3]; simp
    · rw [h4 q (by omega) (by omega)]
      simp only [Bool.false_eq_true, if_false]
      exact fbN_at g n (q + 1) k (by omega) (by omega) h3 (fun j h5 h6 => h4 j (by omega) h6)
def fb (g : Nat → Bool) (n : Nat) : Int := fbN g 0 n
theorem fb_none {g : Nat → Bool} {n : Nat} (h : ∀ j, j < n → g j = false) : fb g n = -1 := fbN_none g n 0 (fun j _ h2 => h j (by omega))
theorem fb_at {g : Nat → Bool} {n k : Nat} (hk : k < n) (h1 : g k = true) (h2 : ∀ j, j < k → g j = false) : fb g n = k := fbN_at g n 0 k (by omega) (by omega) h1 (fun j _ h => h2 j h)
theorem fb_ge (g : Nat → Bool) (n : Nat) : fb g n = -1 ∨ ∃ k : Nat, k < n ∧ fb g n = k ∧ g k = true := by
  by_cases h : ∃ k, k < n ∧ g k = true ∧ ∀ j, j < k → g j = false
  · obtain ⟨k, h1, h2, h3⟩ := h
    exact .inr ⟨k, h1, fb_at h1 h2 h3, h2⟩
  · refine .inl (fb_none fun j => ?_)
    induction j using Nat.strongRecOn with
    | _ j ih =>
      intro hj
      cases hg : g j with
      | false => rfl
      | true => exact absurd ⟨j, hj, hg, fun i hi => ih i hi (by omega)⟩ h
/-- Which instruction of a program may not be. -/
def badI (f : Nat → Ins) (n : Nat) (k : Nat) : Bool := !mayI (f k) n
/-- What Check answers. -/
def chkV (n : Nat) (f : Nat → Ins) : Value := if 256 < n then .tuple #[.int .i64 0, .int .i64 2] else if 0 ≤ fb (badI f n) n then .tuple #[.int .i64 (fb (badI f n) n), .int .i64 2] else .tuple #[.int .i64 0, .int .i64 0]

theorem check1_any (i : Ins) (B : Nat) (A : Option Addr) (n c : Nat) (w : World) (hb : Blk w B 67 #[.slice A n c]) : Calls Tryz.prog 91 #[.agg (insV i), .pointer (some ⟨B, 0, none⟩)] w fun e w' => e = .returned (.bool (!mayI i n)) ∧ Only [] w w' := by
  have MY := fun W => may_any i (n : Int) W
  have b1 := Blk.new w 99 (insV i)
  have o1 := (Only.refl [] w).alloc (.cells (insV i) 99)
  have b2 := hb.alloc (.cells (insV i) 99)
  unfold insV at b1 o1 b2 MY
  unfold insV
  have x0 := b1.cell 0
  have x1 := b1.cell 1
  have x2 := b1.cell 2
  have x3 := b1.cell 3
  have x4 := b1.cell 4
  have y0 := b2.cell 0
  have MY := hide MY
  have O1 := hide o1
  clear b1 b2 o1 hb
  go_enter Tryz.func91, Tryz.ntmps91
  go_wp2_with (go_at_call 92; (with_reducible refine (MY.out _).mono ?_); rintro e w1 ⟨rfl, o⟩; have O2 := hide (O1.out.trans0 o); clear o)
  go_ret
  exact ⟨rfl, O2.out⟩
set_option maxHeartbeats 4000000 in
theorem indexI_any (A : Option Addr) (n c : Nat) (f : Nat → Ins) (B : Nat) (w : World) (hA : InsAt w A n f) (hn : n ≤ maxLen) (hb : Blk w B 67 #[.slice A n c]) : Calls Tryz.prog 90 #[.slice A n c, .func (.func 91) #[] #[.pointer (some ⟨B, 0, none⟩)]] w fun e w' => e = .returned (.int .i64 (fb (badI f n) n)) ∧ Only [] w w' := by
  unfold maxLen at hn
  have HA := hide hA
  have HB := hide hb
  clear hA hb
  go_enter Tryz.func90, Tryz.ntmps90
  go_wp2_with fail
  go_loopw [8] (fun v8 wr => ∃ q : Nat, q ≤ n ∧ v8 = .int .i64 q ∧ Hid (∀ j, j < q → badI f n j = false) ∧ Hid (Only [] w wr)) (fun v8 _ => n - (intOf v8).toNat)
  case atStart => exact ⟨0, by omega, rfl, hide (fun j hj => by omega), hide (Only.refl _ _)⟩
  case round =>
    obtain ⟨q, hq, rfl, hz, hO⟩ := hrel
    by_cases hqn : q < n
    · obtain ⟨a, rfl, e0, e1, e2, e3, e4⟩ := HA.out q hqn
      have c0 := hO.out.keep0 e0
      have c1 := hO.out.keep0 e1
      have c2 := hO.out.keep0 e2
      have c3 := hO.out.keep0 e3
      have c4 := hO.out.keep0 e4
      have C1 := check1_any (f q) B (some a) n c wr (HB.out.only hO.out (by simp))
      unfold insV at C1
      obtain ⟨b, hb⟩ : ∃ b, mayI (f q) n = b := ⟨_, rfl⟩
      rw [hb] at C1
      have C1 := hide C1
      have HBq := hide hb
      have j0 : (0 : Int) ≤ (q : Int) := by omega
      have j1 : (q : Int) < (n : Int) := by omega
      clear e0 e1 e2 e3 e4 hb
      cases b with
      | true =>
        go_wp2_with (go_at_call 91; (with_reducible refine C1.out.mono ?_); rintro e w1 ⟨rfl, o⟩; have O2 := hide (hO.out.trans0 o); clear o)
        go_roundw
        case rel => exact ⟨q + 1, by omega, by go_num, hide (fun j hj => by
          rcases (by omega : j < q ∨ j = q) with h | h
          · exact hz.out j h
          · subst h; unfold badI; rw [HBq.out]; rfl), O2⟩
        case measure => simp [intOf]; omega
      | false =>
        have hfb := hide (fb_at hqn (show badI f n q = true by unfold badI; rw [HBq.out]; rfl) hz.out)
        go_wp2_with (go_at_call 91; (with_reducible refine C1.out.mono ?_); rintro e w1 ⟨rfl, o⟩; have O2 := hide (hO.out.trans0 o); clear o)
        go_ret
        exact ⟨by rw [hfb.out]; rfl, O2.out⟩
    · obtain rfl : q = n := by omega
      have hfb := hide (fb_none hz.out)
      go_wp2_with fail
      go_ret
      exact ⟨by rw [hfb.out]; rfl, hO.out⟩
theorem check_any (A : Option Addr) (n c : Nat) (f : Nat → Ins) (w : World) (hA : InsAt w A n f) (hn : n ≤ maxLen) : Calls Tryz.prog 64 #[.slice A n c] w fun e w' => e = .returned (chkV n f) ∧ Only [] w w' := by
  have hb := Blk.new w 67 #[.slice A n c]
  have ho := (Only.refl [] w).alloc (.cells #[.slice A n c] 67)
  have IX := hide (indexI_any A n c f w.heap.size _ (hA.only0 ho) hn hb)
  have O1 := hide ho
  have x0 := hb.cell 0
  unfold maxLen at hn
  clear hA ho hb
  by_cases h256 : 256 < n
  · have e0 : decide ((256 : Int) < (n : Int)) = true := decide_eq_true (by omega)
    have e1 : decide (256 < n) = true := decide_eq_true (by omega)
    have hv := hide (show chkV n f = .tuple #[.int .i64 0, .int .i64 2] by unfold chkV; rw [if_pos h256])
    clear h256 IX
    go_enter Tryz.func64, Tryz.ntmps64
    go_wp2_with fail
    go_ret2
    exact ⟨by rw [hv.out]; rfl, O1.out⟩
  · have e0 : decide ((256 : Int) < (n : Int)) = false := decide_eq_false (by omega)
    have e1 : decide (256 < n) = false := decide_eq_false (by omega)
    by_cases hfb : 0 ≤ fb (badI f n) n
    · have hv := hide (show chkV n f = .tuple #[.int .i64 (fb (badI f n) n), .int .i64 2] by unfold chkV; rw [if_neg h256, if_pos hfb])
      obtain ⟨r, hr⟩ : ∃ r, fb (badI f n) n = r := ⟨_, rfl⟩
      rw [hr] at IX hv hfb
      have d0 : decide ((0 : Int) ≤ r) = true := decide_eq_true hfb
      clear h256 hr
      go_enter Tryz.func64, Tryz.ntmps64
      go_wp2_with (go_at_call 90; (with_reducible refine IX.out.mono ?_); rintro e w1 ⟨rfl, o⟩; have O2 := hide (O1.out.trans0 o); clear o)
      go_ret2
      exact ⟨by rw [hv.out]; rfl, O2.out⟩
    · have hv := hide (show chkV n f = .tuple #[.int .i64 0, .int .i64 0] by unfold chkV; rw [if_neg h256, if_neg hfb])
      obtain ⟨r, hr⟩ : ∃ r, fb (badI f n) n = r := ⟨_, rfl⟩
      rw [hr] at IX hfb
      have d0 : decide ((0 : Int) ≤ r) = false := decide_eq_false hfb
      clear h256 hr
      go_enter Tryz.func64, Tryz.ntmps64
      go_wp2_with (go_at_call 90; (with_reducible refine IX.out.mono ?_); rintro e w1 ⟨rfl, o⟩; have O2 := hide (O1.out.trans0 o); clear o)
      go_ret2
      exact ⟨by rw [hv.out]; rfl, O2.out⟩
set_option maxHeartbeats 4000000 in
theorem rcheck_any (A : Option Addr) (n c : Nat) (f : Nat → Ins) (w : World) (hA : InsAt w A n f) (hn : n ≤ maxLen) : Calls Tryz.prog 72 #[.slice A n c] w fun e w' => e = .returned (chkV n f) ∧ Only [] w w' := by
  have HA := hide hA
  unfold maxLen at hn
  clear hA
  by_cases h256 : 256 < n
  · have e0 : decide ((256 : Int) < (n : Int)) = true := decide_eq_true (by omega)
    have e1 : decide (256 < n) = true := decide_eq_true (by omega)
    have hv := hide (show chkV n f = .tuple #[.int .i64 0, .int .i64 2] by unfold chkV; rw [if_pos h256])
    clear h256
    go_enter Tryz.func72, Tryz.ntmps72
    go_wp2_with fail
    go_ret2
    exact ⟨by rw [hv.out]; rfl, Only.refl _ _⟩
  have e0 : decide ((256 : Int) < (n : Int)) = false := decide_eq_false (by omega)
  have e1 : decide (256 < n) = false := decide_eq_false (by omega)
  go_enter Tryz.func72, Tryz.ntmps72
  go_wp2_with fail
  go_loopw [4] (fun v4 wr => ∃ q : Nat, q ≤ n ∧ v4 = .int .i64 q ∧ Hid (∀ j, j < q → badI f n j = false) ∧ Hid (Only [] w wr)) (fun v4 _ => n - (intOf v4).toNat)
  case atStart => exact ⟨0, by omega, rfl, hide (fun j hj => by omega), hide (Only.refl _ _)⟩
  case round =>
    obtain ⟨q, hq, rfl, hz, hO⟩ := hrel
    by_cases hqn : q < n
    · obtain ⟨a, rfl, e0, e1, e2, e3, e4⟩ := HA.out q hqn
      have c0 := hO.out.keep0 e0
      have c1 := hO.out.keep0 e1
      have c2 := hO.out.keep0 e2
      have c3 := hO.out.keep0 e3
      have c4 := hO.out.keep0 e4
      have C1 := rmay_any (f q) n wr
      unfold insV at C1
      obtain ⟨b, hb⟩ : ∃ b, mayI (f q) n = b := ⟨_, rfl⟩
      rw [hb] at C1
      have C1 := hide C1
      have HBq := hide hb
      have H256 := hide h256
      have j0 : (0 : Int) ≤ (q : Int) := by omega
      have j1 : (q : Int) < (n : Int) := by omega
      clear e0 e1 e2 e3 e4 hb h256
      cases b with
      | true =>
        go_wp2_with (go_at_call 98; (with_reducible refine C1.out.mono ?_); rintro e w1 ⟨rfl, o⟩; have O2 := hide (hO.out.trans0 o); clear o)
        go_roundw
        case rel => exact ⟨q + 1, by omega, by go_num, hide (fun j hj => by
          rcases (by omega : j < q ∨ j = q) with h | h
          · exact hz.out j h
          · subst h; unfold badI; rw [HBq.out]; rfl), O2⟩
        case measure => simp [intOf]; omega
      | false =>
        have hfb := hide (fb_at hqn (show badI f n q = true by unfold badI; rw [HBq.out]; rfl) hz.out)
        have hv := hide (show chkV n f = .tuple #[.int .i64 (q : Int), .int .i64 2] by unfold chkV; rw [if_neg H256.out, hfb.out, if_pos (by omega)])
        go_wp2_with (go_at_call 98; (with_reducible refine C1.out.mono ?_); rintro e w1 ⟨rfl, o⟩; have O2 := hide (hO.out.trans0 o); clear o)
        go_ret2
        exact ⟨by rw [hv.out]; rfl, O2.out⟩
    · obtain rfl : q = n := by omega
      have hv := hide (show chkV q f = .tuple #[.int .i64 0, .int .i64 0] by unfold chkV; rw [if_neg h256, fb_none hz.out, if_neg (by omega)])
      clear h256
      go_wp2_with fail
      go_ret2
      exact ⟨by rw [hv.out]; rfl, hO.out⟩
/-- Whether a program may not be. -/
def badP (n : Nat) (f : Nat → Ins) : Bool := decide (256 < n) || decide (0 ≤ fb (badI f n) n)
theorem chkV_bad (n : Nat) (f : Nat → Ins) : ∃ x, chkV n f = .tuple #[.int .i64 x, .int .i64 (if badP n f then 2 else 0)] := by
  unfold chkV badP
  by_cases h1 : 256 < n
  · rw [if_pos h1]; simp [h1]
  · rw [if_neg h1]
    by_cases h2 : 0 ≤ fb (badI f n) n
    · rw [if_pos h2]; simp [h2]
    · rw [if_neg h2]; simp [h1, h2]
theorem bad1_any (A : Option Addr) (n c : Nat) (f : Nat → Ins) (w : World) (hA : InsAt w A n f) (hn : n ≤ maxLen) : Calls Tryz.prog 63 #[.slice A n c] w fun e w' => e = .returned (.bool (badP n f)) ∧ Only [] w w' := by
  have CK := check_any A n c f w hA hn
  obtain ⟨x, hx⟩ := chkV_bad n f
  rw [hx] at CK
  have CK := hide CK
  obtain ⟨b, hb⟩ : ∃ b, badP n f = b := ⟨_, rfl⟩
  rw [hb] at CK ⊢
  clear hx hb
  go_enter Tryz.func63, Tryz.ntmps63
  cases b
  all_goals (
    go_wp2_with (go_at_call 64; (with_reducible refine CK.out.mono ?_); rintro e w1 ⟨rfl, o⟩; have O2 := hide o; clear o)
    go_ret
    exact ⟨rfl, O2.out⟩)
end Go.Proofs.YteblhklclcjonaaGreatDoor
