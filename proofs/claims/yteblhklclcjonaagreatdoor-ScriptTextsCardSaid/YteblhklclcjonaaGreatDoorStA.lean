/- Script: a job's and a script's texts, Check, List, rows compared. No condition but what each theorem says. -/
import Derived.Test.YteblhklclcjonaaGreatDoorCt1
import Derived.Test.YteblhklclcjonaaGreatDoorSe2
import Derived.Test.YteblhklclcjonaaGreatDoorCdQ
import Derived.Test.YteblhklclcjonaaGreatDoorSe1
import Derived.Test.YteblhklclcjonaaGreatDoorSm1
import Derived.Test.YteblhklclcjonaaGreatDoorCdP
import Derived.Test.YteblhklclcjonaaGreatDoorSc5
import Derived.Laws.StructEq
import Derived.BigRegion
namespace Go.Proofs.YteblhklclcjonaaGreatDoor
open Go.RowKit
set_option linter.unusedVariables false
set_option linter.all false
set_option maxRecDepth 20000

/-- A program's text, up to an instruction. -/
def listB (f : Nat → Ins) : Nat → List UInt8
  | 0 => []
  | q + 1 => listB f q ++ (lineB (f q) ++ [10])
theorem listB_len (f : Nat → Ins) : ∀ q, (listB f q).length ≤ 121 * q
  | 0 => by simp [listB]
  | q + 1 => by
    have := listB_len f q
    have := lineB_len (f q)
    simp [listB]; omega
theorem immOk_le {k : Nat} {v a b : Int} (h : a ≤ b) (hm : immOk k v a = true) : immOk k v b = true := by
  unfold immOk at hm ⊢
  split at hm
  · exact hm
  · exact hm
  · simp at hm ⊢; omega
  · exact hm
theorem mayI_le {i : Ins} {a b : Int} (h : a ≤ b) (hm : mayI i a = true) : mayI i b = true := by
  unfold mayI at hm ⊢
  simp only [Bool.and_eq_true] at hm ⊢
  exact ⟨hm.1, immOk_le h hm.2⟩
/-- A program that may be. -/
structure Good (n : Nat) (f : Nat → Ins) : Prop where
  len : n ≤ 256
  may : ∀ k, k < n → mayI (f k) n = true
  imm : ∀ k, k < n → -9223372036854775808 ≤ (f k).imm ∧ (f k).imm ≤ 9223372036854775807
theorem Good.may256 {n : Nat} {f : Nat → Ins} (h : Good n f) {k : Nat} (hk : k < n) : mayI (f k) 256 = true := mayI_le (by have := h.len; omega) (h.may k hk)
theorem Good.chk {n : Nat} {f : Nat → Ins} (h : Good n f) : chkV n f = .tuple #[.int .i64 0, .int .i64 0] := by
  unfold chkV
  rw [if_neg (by have := h.len; omega), fb_none (fun j hj => by unfold badI; rw [h.may j hj]; rfl), if_neg (by omega)]
theorem bad_chk {n : Nat} {f : Nat → Ins} (h : badP n f = true) : ∃ x, chkV n f = .tuple #[.int .i64 x, .int .i64 2] := by
  obtain ⟨x, hx⟩ := chkV_bad n f
  rw [h] at hx
  exact ⟨x, hx⟩
theorem good_of {n : Nat} {f : Nat → Ins} (h : badP n f = false) (hi : ∀ k, k < n → -9223372036854775808 ≤ (f k).imm ∧ (f k).imm ≤ 9223372036854775807) : Good n f := by
  unfold badP at h
  simp at h
  refine ⟨by omega, fun k hk => ?_, hi⟩
  cases hm : mayI (f k) n with
  | true => rfl
  | false =>
    rcases fb_ge (badI f n) n with h1 | ⟨j, _, h1, _⟩
    · exfalso
      have hmin : ∃ k, k < n ∧ badI f n k = true ∧ ∀ j, j < k → badI f n j = false := by
        have hk0 : ∃ k, k < n ∧ badI f n k = true := ⟨k, hk, by unfold badI; rw [hm]; rfl⟩
        clear h h1 hi hm hk
        obtain ⟨k, hk, hb⟩ := hk0
        induction k using Nat.strongRecOn with
        | _ k ih =>
          by_cases hj : ∃ j, j < k ∧ badI f n j = true
          · obtain ⟨j, hj1, hj2⟩ := hj
            exact ih j hj1 (by omega) hj2
          · exact ⟨k, hk, hb, fun j hj1 => by
              cases hc : badI f n j with
              | false => rfl
              | true => exact absurd ⟨j, hj1, hc⟩ hj⟩
      obtain ⟨j, hj1, hj2, hj3⟩ := hmin
      rw [fb_at hj1 hj2 hj3] at h1
      omega
    · omega
theorem list_bad (A : Option Addr) (n c : Nat) (f : Nat → Ins) (w : World) (hA : InsAt w A n f) (hn : n ≤ maxLen) (hb : badP n f = true) : Calls Tryz.prog 45 #[.slice A n c] w fun e w' => e = .returned (.tuple #[.string ⟨#[]⟩, .int .i64 2]) ∧ Only [] w w' := by
  have CK := check_any A n c f w hA hn
  obtain ⟨x, hx⟩ := bad_chk hb
  rw [hx] at CK
  have CK := hide CK
  clear hA hx hb
  go_enter Tryz.func45, Tryz.ntmps45
  go_wp2_with (go_at_call 64; (with_reducible refine CK.out.mono ?_); rintro e w1 ⟨rfl, o⟩; have O2 := hide o; clear o)
  go_ret2
  exact ⟨rfl, O2.out⟩
set_option maxHeartbeats 4000000 in
theorem list_good (A : Option Addr) (n c : Nat) (f : Nat → Ins) (w : World) (he : Env w) (hA : InsAt w A n f) (hg : Good n f) : Calls Tryz.prog 45 #[.slice A n c] w fun e w' => e = .returned (.tuple #[.string (bs (listB f n)), .int .i64 0]) ∧ Only [] w w' := by
  have hn := hg.len
  have CK := check_any A n c f w hA (by unfold maxLen; omega)
  rw [hg.chk] at CK
  have CK := hide CK
  have HA := hide hA
  have HE := hide he
  have HG := hide hg
  clear hA he hg
  go_enter Tryz.func45, Tryz.ntmps45
  go_wp2_with (go_at_call 64; (with_reducible refine CK.out.mono ?_); rintro e w1 ⟨rfl, o⟩; have O1 := hide o; have hs1 := o.size; have BN := hide (Bd.new w1 w.heap.size hs1); have OB := hide ((o.alloc (.cells #[.pointer none, .slice none 0 0] 88)).below); clear o)
  obtain ⟨b, hb⟩ : ∃ b, w1.heap.size = b := ⟨_, rfl⟩
  rw [hb] at BN
  simp only [hb]
  obtain ⟨V, hV⟩ : ∃ V, w1.alloc (.cells #[.pointer none, .slice none 0 0] 88) = V := ⟨_, rfl⟩
  rw [hV] at BN OB ⊢
  clear hV hb O1 hs1 CK
  go_loopw [21] (fun v21 wr => ∃ q : Nat, q ≤ n ∧ v21 = .int .i64 q ∧ Hid (Bd wr w.heap.size b (listB f q)) ∧ Hid (Below w.heap.size w wr)) (fun v21 _ => n - (intOf v21).toNat)
  case atStart => exact ⟨0, by omega, rfl, BN, OB⟩
  case round =>
    clear BN OB
    obtain ⟨q, hq, rfl, hB, hO⟩ := hrel
    have O := hide (show Only [] w wr from Only.ofBelow hO.out)
    by_cases hqn : q < n
    · obtain ⟨a, rfl, e0, e1, e2, e3, e4⟩ := HA.out q hqn
      have c0 := O.out.keep0 e0
      have c1 := O.out.keep0 e1
      have c2 := O.out.keep0 e2
      have c3 := O.out.keep0 e3
      have c4 := O.out.keep0 e4
      have j0 : (0 : Int) ≤ (q : Int) := by omega
      have j1 : (q : Int) < (n : Int) := by omega
      have him := HG.out.imm q hqn
      have LN := fun W (oo : Only [] w W) => line_any (f q) W (HE.out.only oo) him.1 him.2
      have hst := hide (show listB f (q + 1) = listB f q ++ (lineB (f q) ++ [10]) from rfl)
      have hll := listB_len f q
      have hl2 := lineB_len (f q)
      rw [HG.out.may256 hqn] at LN
      simp only [if_true] at LN
      obtain ⟨o, ho⟩ : ∃ x, (f q).op = x := ⟨_, rfl⟩
      obtain ⟨d, hd⟩ : ∃ x, (f q).d = x := ⟨_, rfl⟩
      obtain ⟨a', ha⟩ : ∃ x, (f q).a = x := ⟨_, rfl⟩
      obtain ⟨b', hb'⟩ : ∃ x, (f q).b = x := ⟨_, rfl⟩
      obtain ⟨m, hm⟩ : ∃ x, (f q).imm = x := ⟨_, rfl⟩
      unfold insV at LN
      rw [ho, hd, ha, hb', hm] at LN
      rw [ho] at c0
      rw [hd] at c1
      rw [ha] at c2
      rw [hb'] at c3
      rw [hm] at c4
      have hcat : bs (lineB (f q)) ++ (⟨#[10]⟩ : ByteArray) = bs (lineB (f q) ++ [10]) := bs_cat (lineB (f q)) [10]
      have z1 : ¬ 9223372036854775807 < (bs (lineB (f q))).size + (⟨#[10]⟩ : ByteArray).size := by rw [bs_size, show (⟨#[10]⟩ : ByteArray).size = 1 from rfl]; omega
      have WR := hide (fun W (hh : Bd W w.heap.size b (listB f q)) (hs : w.heap.size ≤ W.heap.size) => write_any w.heap.size b (listB f q) (bs (lineB (f q) ++ [10])) W hh (by rw [bs_size]; simp; omega) hs)
      rw [bs_list] at WR
      obtain ⟨sl, hsl⟩ : ∃ x, bs (lineB (f q)) = x := ⟨_, rfl⟩
      obtain ⟨s2, hs2⟩ : ∃ x, bs (lineB (f q) ++ [10]) = x := ⟨_, rfl⟩
      rw [hsl] at LN hcat z1
      rw [hs2] at hcat WR
      have LN := hide LN
      have nb := Blk.new wr 99 #[.int .i64 o, .int .i64 d, .int .i64 a', .int .i64 b', .int .i64 m]
      have OA := hide (O.out.alloc (.cells #[.int .i64 o, .int .i64 d, .int .i64 a', .int .i64 b', .int .i64 m] 99))
      have HB := hide (hB.out.only0 ((Only.refl [] wr).alloc (.cells #[.int .i64 o, .int .i64 d, .int .i64 a', .int .i64 b', .int .i64 m] 99)))
      have k0 := nb.cell 0
      have k1 := nb.cell 1
      have k2 := nb.cell 2
      have k3 := nb.cell 3
      have k4 := nb.cell 4
      clear e0 e1 e2 e3 e4 him ho hd ha hb' hm hsl hs2 nb hll hl2 hB hO O
      go_wp2_with (first
        | (go_at_call 70; (with_reducible refine (LN.out _ OA.out).mono ?_); rintro e w3 ⟨rfl, o3⟩; have O3 := hide (OA.out.trans0 o3); have HB3 := hide (HB.out.only0 o3); clear o3 k0 k1 k2 k3 k4)
        | (go_at_call 41; (with_reducible refine (WR.out _ HB3.out O3.out.size).mono ?_); rintro e w4 ⟨rfl, h4, b4⟩; have HB4 := hide h4; have O4 := hide (O3.out.below.trans b4); clear h4 b4))
      go_roundw
      case rel => exact ⟨q + 1, by omega, by go_num, by rw [hst.out]; exact HB4, O4⟩
      case measure => simp [intOf]; omega
    · obtain rfl : q = n := by omega
      have ST := hide (string_any w.heap.size b (listB f q) wr hB.out O.out.size)
      clear hqn hq
      go_wp2_with (go_at_call 43; (with_reducible refine ST.out.mono ?_); rintro e w4 ⟨rfl, b4⟩; have O4 := hide (hO.out.trans b4); clear b4)
      go_ret2
      exact ⟨rfl, Only.ofBelow O4.out⟩
end Go.Proofs.YteblhklclcjonaaGreatDoor
namespace Go.Proofs.YteblhklclcjonaaGreatDoor
open Go.RowKit
set_option linter.unusedVariables false
set_option linter.all false
set_option maxRecDepth 20000

theorem chk1_ev (k m : Int) (w : World) : Calls Tryz.prog 40 #[.agg #[.int .i64 k, .int .i64 m]] w fun e w' => e = .returned (.bool (!mayE ⟨k, m⟩)) ∧ Only [] w w' := by
  have O1 := hide ((Only.refl [] w).alloc (.cells #[.int .i64 k, .int .i64 m] 24))
  have MY := hide (fun W => may_ev k m W)
  go_enter Tryz.func40, Tryz.ntmps40
  go_wp2_with (go_at_call 13; (with_reducible refine (MY.out _).mono ?_); rintro e w1 ⟨rfl, o⟩; have O2 := hide (O1.out.trans0 o); clear o)
  go_ret
  exact ⟨rfl, O2.out⟩
def badE (f : Nat → Ev) (k : Nat) : Bool := !mayE (f k)
set_option maxHeartbeats 4000000 in
theorem indexE_any (A : Option Addr) (n c : Nat) (f : Nat → Ev) (w : World) (hA : EvAt w A n f) (hn : n ≤ maxLen) : Calls Tryz.prog 39 #[.slice A n c, .func (.func 40) #[] #[]] w fun e w' => e = .returned (.int .i64 (fb (badE f) n)) ∧ Only [] w w' := by
  unfold maxLen at hn
  have HA := hide hA
  clear hA
  go_enter Tryz.func39, Tryz.ntmps39
  go_wp2_with fail
  go_loopw [8] (fun v8 wr => ∃ q : Nat, q ≤ n ∧ v8 = .int .i64 q ∧ Hid (∀ j, j < q → badE f j = false) ∧ Hid (Only [] w wr)) (fun v8 _ => n - (intOf v8).toNat)
  case atStart => exact ⟨0, by omega, rfl, hide (fun j hj => by omega), hide (Only.refl _ _)⟩
  case round =>
    obtain ⟨q, hq, rfl, hz, hO⟩ := hrel
    by_cases hqn : q < n
    · obtain ⟨a, rfl, e0, e1⟩ := HA.out q hqn
      have c0 := hO.out.keep0 e0
      have c1 := hO.out.keep0 e1
      have C1 := chk1_ev (f q).kind (f q).num wr
      obtain ⟨b, hb⟩ : ∃ b, (!mayE ⟨(f q).kind, (f q).num⟩) = b := ⟨_, rfl⟩
      rw [hb] at C1
      have C1 := hide C1
      have HBq := hide (show badE f q = b from hb)
      have j0 : (0 : Int) ≤ (q : Int) := by omega
      have j1 : (q : Int) < (n : Int) := by omega
      clear e0 e1 hb
      cases b with
      | false =>
        go_wp2_with (go_at_call 40; (with_reducible refine C1.out.mono ?_); rintro e w1 ⟨rfl, o⟩; have O2 := hide (hO.out.trans0 o); clear o)
        go_roundw
        case rel => exact ⟨q + 1, by omega, by go_num, hide (fun j hj => by
          rcases (by omega : j < q ∨ j = q) with h | h
          · exact hz.out j h
          · subst h; exact HBq.out), O2⟩
        case measure => simp [intOf]; omega
      | true =>
        have hfb := hide (fb_at hqn HBq.out hz.out)
        go_wp2_with (go_at_call 40; (with_reducible refine C1.out.mono ?_); rintro e w1 ⟨rfl, o⟩; have O2 := hide (hO.out.trans0 o); clear o)
        go_ret
        exact ⟨by rw [hfb.out]; rfl, O2.out⟩
    · obtain rfl : q = n := by omega
      have hfb := hide (fb_none hz.out)
      go_wp2_with fail
      go_ret
      exact ⟨by rw [hfb.out]; rfl, hO.out⟩
end Go.Proofs.YteblhklclcjonaaGreatDoor
namespace Go.Proofs.YteblhklclcjonaaGreatDoor
open Go.RowKit
set_option linter.unusedVariables false
set_option linter.all false
set_option maxRecDepth 20000

/-- What Check answers. -/
noncomputable def chkE (J : Jb) (n : Nat) (f : Nat → Ev) : Int × Int :=
  if jobE J ≠ 0 then (0, jobE J) else if 0 ≤ fb (badE f) n then (fb (badE f) n, 2) else if 8192 < n then (0, 3) else (0, 0)
def sc9 (J : Jb) (A : Option Addr) (n c : Nat) : Array Value := #[.int .i64 J.t, .int .i64 J.o, .int .i64 J.s, .int .i64 J.q, .int .i64 J.m, .int .i64 J.p, .slice J.pA J.pn J.pc, .slice J.tA J.tn J.tc, .slice A n c]
theorem jb_only0 {w W : World} {J : Jb} (h : JbAt w J) (o : Only [] w W) : JbAt W J := ⟨h.1.only0 o, h.2.1.only0 o, h.2.2⟩
set_option maxHeartbeats 8000000 in
theorem scheck_any (J : Jb) (A : Option Addr) (n c : Nat) (f : Nat → Ev) (w : World) (hJ : JbAt w J) (hE : EvAt w A n f) (hn : n ≤ maxLen) : Calls Tryz.prog 22 #[.agg (sc9 J A n c)] w fun e w' => e = .returned (.tuple #[.int .i64 (chkE J n f).1, .int .i64 (chkE J n f).2]) ∧ Only [] w w' := by
  unfold maxLen at hn
  have B1 := hide (Blk.new w 54 (sc9 J A n c))
  have O1 := hide ((Only.refl [] w).alloc (.cells (sc9 J A n c) 54))
  have CJ := hide (fun W (o : Only [] w W) => checkjob_any J W (jb_only0 hJ o))
  have IX := hide (fun W (o : Only [] w W) => indexE_any A n c f W (hE.only0 o) (by unfold maxLen; exact hn))
  unfold sc9 at B1 O1
  unfold jobV at CJ
  obtain ⟨X, hX⟩ : ∃ X, w.heap.size = X := ⟨_, rfl⟩
  rw [hX] at B1
  have x0 := B1.out.cell 0; have x1 := B1.out.cell 1; have x2 := B1.out.cell 2; have x3 := B1.out.cell 3; have x4 := B1.out.cell 4; have x5 := B1.out.cell 5; have x6 := B1.out.cell 6; have x7 := B1.out.cell 7; have x8 := B1.out.cell 8
  obtain ⟨je, hje⟩ : ∃ je, jobE J = je := ⟨_, rfl⟩
  obtain ⟨ix, hix⟩ : ∃ ix, fb (badE f) n = ix := ⟨_, rfl⟩
  have hC : chkE J n f = if je ≠ 0 then (0, je) else if 0 ≤ ix then (ix, 2) else if 8192 < n then (0, 3) else (0, 0) := by unfold chkE; rw [hje, hix]
  simp only [hje] at CJ
  simp only [hix] at IX
  clear hJ hE hje hix
  unfold sc9
  by_cases j0 : je = 0
  · rw [if_neg (by simpa using j0)] at hC
    have b0 : (je != 0) = false := by simpa using j0
    subst j0
    by_cases i0 : 0 ≤ ix
    · rw [if_pos i0] at hC
      have HC := hide hC
      have d0 : decide ((0 : Int) ≤ ix) = true := decide_eq_true i0
      clear hC b0
      go_enter Tryz.func22, Tryz.ntmps22
      go_wp2_with (first
        | (go_at_call 38; (with_reducible refine (CJ.out _ O1.out).mono ?_); rintro e w1 ⟨rfl, o⟩; have O2 := hide (O1.out.trans0 o); have y8 := (B1.out.only o (by simp)).cell 8; clear o)
        | (go_at_call 39; (with_reducible refine (IX.out _ O2.out).mono ?_); rintro e w2 ⟨rfl, o⟩; have O3 := hide (O2.out.trans0 o); clear o))
      go_ret2
      exact ⟨by rw [HC.out]; rfl, O3.out⟩
    · rw [if_neg i0] at hC
      have d0 : decide ((0 : Int) ≤ ix) = false := decide_eq_false i0
      by_cases n0 : 8192 < n
      · rw [if_pos n0] at hC
        have HC := hide hC
        have d1 : decide ((8192 : Int) < (n : Int)) = true := decide_eq_true (by omega)
        have d2 : decide (8192 < n) = true := decide_eq_true (by omega)
        clear hC b0
        go_enter Tryz.func22, Tryz.ntmps22
        go_wp2_with (first
          | (go_at_call 38; (with_reducible refine (CJ.out _ O1.out).mono ?_); rintro e w1 ⟨rfl, o⟩; have O2 := hide (O1.out.trans0 o); have B2 := hide (B1.out.only o (by simp)); have y8 := B2.out.cell 8; clear o)
          | (go_at_call 39; (with_reducible refine (IX.out _ O2.out).mono ?_); rintro e w2 ⟨rfl, o⟩; have O3 := hide (O2.out.trans0 o); have z8 := (B2.out.only o (by simp)).cell 8; clear o))
        go_ret2
        exact ⟨by rw [HC.out]; rfl, O3.out⟩
      · rw [if_neg n0] at hC
        have HC := hide hC
        have d1 : decide ((8192 : Int) < (n : Int)) = false := decide_eq_false (by omega)
        have d2 : decide (8192 < n) = false := decide_eq_false (by omega)
        clear hC b0
        go_enter Tryz.func22, Tryz.ntmps22
        go_wp2_with (first
          | (go_at_call 38; (with_reducible refine (CJ.out _ O1.out).mono ?_); rintro e w1 ⟨rfl, o⟩; have O2 := hide (O1.out.trans0 o); have B2 := hide (B1.out.only o (by simp)); have y8 := B2.out.cell 8; clear o)
          | (go_at_call 39; (with_reducible refine (IX.out _ O2.out).mono ?_); rintro e w2 ⟨rfl, o⟩; have O3 := hide (O2.out.trans0 o); have z8 := (B2.out.only o (by simp)).cell 8; clear o))
        go_ret2
        exact ⟨by rw [HC.out]; rfl, O3.out⟩
  · rw [if_pos j0] at hC
    have HC := hide hC
    have b0 : (je != 0) = true := by simpa using j0
    clear hC
    go_enter Tryz.func22, Tryz.ntmps22
    go_wp2_with (go_at_call 38; (with_reducible refine (CJ.out _ O1.out).mono ?_); rintro e w1 ⟨rfl, o⟩; have O2 := hide (O1.out.trans0 o); clear o)
    go_ret2
    exact ⟨by rw [HC.out]; rfl, O2.out⟩
end Go.Proofs.YteblhklclcjonaaGreatDoor
namespace Go.Proofs.YteblhklclcjonaaGreatDoor
open Go.RowKit
set_option linter.unusedVariables false
set_option linter.all false
set_option maxRecDepth 20000

def progT (P : Nat → Pg) : Nat → List UInt8
  | 0 => []
  | q + 1 => progT P q ++ (progW ++ 10 :: listB (P q).f (P q).n)
def textT (T : Nat → ByteArray) : Nat → List UInt8
  | 0 => []
  | q + 1 => textT T q ++ (textW ++ 32 :: (wordB (T q).data.toList ++ [10]))
def jobT (J : Jb) : List UInt8 := headB (v9 J) ++ 10 :: (progT J.P J.pn ++ textT J.T J.tn)
def insL (n : Nat) (f : Nat → Ins) : List Ins := (List.range n).map f
def psL (n : Nat) (P : Nat → Pg) : List (List Ins) := (List.range n).map fun k => insL (P k).n (P k).f
def tsL (n : Nat) (T : Nat → ByteArray) : List (List UInt8) := (List.range n).map fun k => (T k).data.toList
def scOf (J : Jb) (n : Nat) (f : Nat → Ev) : Sc := ⟨v9 J, psL J.pn J.P, tsL J.tn J.T, evL n f⟩
/-- Every number of an instruction is one of 64 bits. -/
def ImmOk (J : Jb) : Prop := ∀ k, k < J.pn → ∀ i, i < (J.P k).n → -9223372036854775808 ≤ ((J.P k).f i).imm ∧ ((J.P k).f i).imm ≤ 9223372036854775807
theorem listB_txt (f : Nat → Ins) : ∀ n, listB f n = txtL (insL n f)
  | 0 => rfl
  | n + 1 => by
    unfold listB
    rw [listB_txt f n]
    simp [insL, List.range_succ, txtL]
theorem progT_B (P : Nat → Pg) : ∀ n, progT P n = progsB (psL n P)
  | 0 => rfl
  | n + 1 => by
    unfold progT
    rw [progT_B P n, listB_txt]
    simp [psL, List.range_succ, progsB]
theorem textT_B (T : Nat → ByteArray) : ∀ n, textT T n = textsB (tsL n T)
  | 0 => rfl
  | n + 1 => by
    unfold textT
    rw [textT_B T n]
    simp [tsL, List.range_succ, textsB]
theorem jobT_B (J : Jb) : jobT J = jobB (v9 J) (psL J.pn J.P) (tsL J.tn J.T) := by
  unfold jobT jobB
  rw [progT_B, textT_B]
def scrT (J : Jb) (n : Nat) (f : Nat → Ev) : List UInt8 := jobT J ++ strB (strF (evL n f))
theorem scrT_B (J : Jb) (n : Nat) (f : Nat → Ev) : scrT J n f = scrB (scOf J n f) := by
  unfold scrT scrB
  rw [jobT_B]
  rfl
theorem fb_all {g : Nat → Bool} {n : Nat} (h : fb g n < 0) : ∀ k, k < n → g k = false := by
  intro k
  induction k using Nat.strongRecOn with
  | _ k ih =>
    intro hk
    cases hc : g k with
    | false => rfl
    | true =>
      have := fb_at hk hc (fun j hj => ih j hj (by omega))
      omega
theorem fb_lt {g : Nat → Bool} {n : Nat} (h : ∀ k, k < n → g k = false) : fb g n = -1 := fb_none h
/-- What a job is that may be. -/
structure GoodJ (J : Jb) : Prop where
  rows : rowsP J
  prog : ∀ k, k < J.pn → Good (J.P k).n (J.P k).f
  text : ∀ k, k < J.tn → (J.T k).size ≤ 64
theorem good_job {J : Jb} (h : jobE J = 0) (hi : ImmOk J) : GoodJ J := by
  unfold jobE at h
  split at h
  · rename_i hc
    obtain ⟨h1, h2, h3⟩ := hc
    refine ⟨h1, fun k hk => good_of (fb_all (g := badG J.P) (n := J.pn) (by omega) k hk) (hi k hk), fun k hk => ?_⟩
    have := fb_all (g := longG J.T) (n := J.tn) (by omega) k hk
    unfold longG at this
    simp at this
    exact this
  · omega
theorem bad_of {n : Nat} {f : Nat → Ins} (h : Good n f) : badP n f = false := by
  obtain ⟨x, hx⟩ := chkV_bad n f
  rw [h.chk] at hx
  cases hb : badP n f with
  | false => rfl
  | true => rw [hb] at hx; simp at hx
theorem job_good {J : Jb} (h : GoodJ J) : jobE J = 0 := by
  refine jobE_ok h.rows ?_ ?_
  · have := fb_lt (g := badG J.P) (n := J.pn) (fun k hk => bad_of (h.prog k hk))
    omega
  · have := fb_lt (g := longG J.T) (n := J.tn) (fun k hk => by unfold longG; simp; exact h.text k hk)
    omega
theorem sz_list (s : ByteArray) : s.data.toList.length = s.size := by rw [Array.length_toList]; rfl
theorem insL_len (n : Nat) (f : Nat → Ins) : (insL n f).length = n := by simp [insL]
theorem psL_len (n : Nat) (P : Nat → Pg) : (psL n P).length = n := by simp [psL]
theorem tsL_len (n : Nat) (T : Nat → ByteArray) : (tsL n T).length = n := by simp [tsL]
theorem lo96 (q : Nat) (h : q < 6) : lo6 q = lo9 q ∧ hi6 q = hi9 q := by
  rcases (by omega : q = 0 ∨ q = 1 ∨ q = 2 ∨ q = 3 ∨ q = 4 ∨ q = 5) with h | h | h | h | h | h <;> subst h <;> exact ⟨rfl, rfl⟩
theorem gP_of {n : Nat} {f : Nat → Ins} (h : Good n f) : gP (insL n f) := by
  refine ⟨by rw [insL_len]; exact h.len, fun i hi => ?_⟩
  obtain ⟨k, hk, rfl⟩ := List.mem_map.1 hi
  have hk := List.mem_range.1 hk
  rw [insL_len]
  exact ⟨h.may k hk, h.may256 hk, (h.imm k hk).1, (h.imm k hk).2⟩
theorem of_gP {n : Nat} {f : Nat → Ins} (h : gP (insL n f)) : Good n f := by
  obtain ⟨h1, h2⟩ := h
  rw [insL_len] at h1 h2
  have hm : ∀ k, k < n → f k ∈ insL n f := fun k hk => List.mem_map.2 ⟨k, List.mem_range.2 hk, rfl⟩
  exact ⟨h1, fun k hk => (h2 _ (hm k hk)).may, fun k hk => ⟨(h2 _ (hm k hk)).i0, (h2 _ (hm k hk)).i1⟩⟩
/-- What a script is that may be. -/
structure GoodJE (J : Jb) (n : Nat) (f : Nat → Ev) : Prop where
  job : GoodJ J
  len : n ≤ 8192
  may : ∀ k, k < n → mayE (f k) = true
theorem chk_zero {J : Jb} {n : Nat} {f : Nat → Ev} (h : (chkE J n f).2 = 0) (hi : ImmOk J) : GoodJE J n f := by
  unfold chkE at h
  split at h
  · rename_i hc; exact absurd h hc
  · rename_i hc
    split at h
    · simp at h
    · rename_i h2
      split at h
      · simp at h
      · rename_i h3
        refine ⟨good_job (by omega) hi, by omega, fun k hk => ?_⟩
        have := fb_all (g := badE f) (n := n) (by omega) k hk
        unfold badE at this
        simpa using this
theorem zero_chk {J : Jb} {n : Nat} {f : Nat → Ev} (h : GoodJE J n f) : chkE J n f = (0, 0) := by
  unfold chkE
  rw [if_neg (by rw [job_good h.job]; simp), if_neg (by rw [fb_lt (g := badE f) (n := n) (fun k hk => by unfold badE; rw [h.may k hk]; rfl)]; omega), if_neg (by have := h.len; omega)]
theorem good_sc {J : Jb} {n : Nat} {f : Nat → Ev} (h : GoodJE J n f) : GoodS (scOf J n f) := by
  have hr := h.job.rows
  have r6 := hr 6 (by omega)
  have r7 := hr 7 (by omega)
  simp only [lo9, hi9, v9] at r6 r7
  refine ⟨?_, ?_, ?_, ?_, ?_, ?_, ?_, ?_⟩
  · show numOk (v9 J) = true
    rw [numOk_iff]
    refine ⟨fun q hq => ?_, ?_⟩
    · rw [(lo96 q hq).1, (lo96 q hq).2]
      exact hr q (by omega)
    · have r4 := hr 4 (by omega)
      have r8 := hr 8 (by omega)
      simp only [lo9, hi9, v9] at r4 r8 ⊢
      rw [Int.tmod_eq_emod_of_nonneg (by omega)] at r8
      omega
  · show psL J.pn J.P ≠ []
    intro hc
    have := psL_len J.pn J.P
    rw [hc] at this
    simp at this
    omega
  · show (psL J.pn J.P).length ≤ 32
    rw [psL_len]; omega
  · intro p hp
    obtain ⟨k, hk, rfl⟩ := List.mem_map.1 (show p ∈ psL J.pn J.P from hp)
    exact gP_of (h.job.prog k (List.mem_range.1 hk))
  · show (tsL J.tn J.T).length ≤ 32
    rw [tsL_len]; omega
  · intro t ht
    obtain ⟨k, hk, rfl⟩ := List.mem_map.1 (show t ∈ tsL J.tn J.T from ht)
    have := h.job.text k (List.mem_range.1 hk)
    rw [sz_list]
    exact this
  · show (evL n f).length ≤ 8192
    rw [evL_len]; exact h.len
  · intro e he
    obtain ⟨k, hk, rfl⟩ := List.mem_map.1 (show e ∈ evL n f from he)
    exact h.may k (List.mem_range.1 hk)
theorem sc_good {J : Jb} {n : Nat} {f : Nat → Ev} (h : GoodS (scOf J n f)) : GoodJE J n f := by
  have hv := h.v
  rw [numOk_iff] at hv
  have hps := h.pl
  have hp0 := h.p0
  have hts := h.tl
  have hes := h.el
  simp only [scOf, psL_len, tsL_len, evL_len] at hv hps hp0 hts hes
  have hpn : J.pn ≠ 0 := fun hc => hp0 (by rw [hc]; rfl)
  have h4 := hv.1 4 (by omega)
  have h8 := hv.2
  simp only [v9, lo6, hi6] at h4 h8
  refine ⟨⟨?_, ?_, ?_⟩, hes, ?_⟩
  · intro q hq
    by_cases h6 : q < 6
    · have := hv.1 q h6
      rw [(lo96 q h6).1, (lo96 q h6).2] at this
      exact this
    · rcases (by omega : q = 6 ∨ q = 7 ∨ q = 8) with h9 | h9 | h9
      · subst h9; simp only [v9, lo9, hi9]; omega
      · subst h9; simp only [v9, lo9, hi9]; omega
      · subst h9
        simp only [v9, lo9, hi9]
        rw [Int.tmod_eq_emod_of_nonneg (by omega)]
        omega
  · intro k hk
    exact of_gP (h.pg _ (List.mem_map.2 ⟨k, List.mem_range.2 hk, rfl⟩))
  · intro k hk
    have := h.tg _ (List.mem_map.2 ⟨k, List.mem_range.2 hk, rfl⟩)
    rw [sz_list] at this
    exact this
  · intro k hk
    exact h.eg _ (List.mem_map.2 ⟨k, List.mem_range.2 hk, rfl⟩)
theorem linesP_le : ∀ ps : List (List Ins), (∀ p ∈ ps, gP p) → linesP ps ≤ 257 * ps.length
  | [], _ => by simp [linesP]
  | p :: ps, h => by
    have h1 := linesP_le ps (fun q hq => h q (by simp [hq]))
    have h2 := (h p (by simp)).1
    have : linesP (p :: ps) = p.length + 1 + linesP ps := by simp [linesP]
    simp only [List.length_cons]
    omega
theorem wtT_le : ∀ ts : List (List UInt8), (∀ t ∈ ts, t.length ≤ 64) → wtT ts ≤ 65 * ts.length
  | [], _ => by simp [wtT]
  | t :: ts, h => by
    have h1 := wtT_le ts (fun q hq => h q (by simp [hq]))
    have h2 := h t (by simp)
    have : wtT (t :: ts) = t.length + 1 + wtT ts := by simp [wtT]
    simp only [List.length_cons]
    omega
/-- No script that may be is too long. -/
theorem scrB_all {s : Sc} (h : GoodS s) : (scrB s).length ≤ 1048576 := by
  have h1 := progsB_le s.ps h.pg
  have h2 := textsB_le s.ts
  have hm : ∀ x ∈ strF s.es, mayS x = true := fun x hx => (strF_may s.es h.el x hx).1
  have h3 := strB_le _ hm
  have h4 := strF_len s.es
  have h5 := headB_len s.v
  have h6 := h.el
  have h7 := linesP_le s.ps h.pg
  have h8 := wtT_le s.ts h.tg
  have h9 := h.pl
  have h10 := h.tl
  unfold scrB jobB
  simp only [List.length_append, List.length_cons]
  omega
theorem progT_len (P : Nat → Pg) (n : Nat) (h : ∀ k, k < n → (P k).n ≤ 256) : (progT P n).length ≤ 31000 * n := by
  induction n with
  | zero => simp [progT]
  | succ n ih =>
    have h1 := ih (fun k hk => h k (by omega))
    have h2 := listB_len (P n).f (P n).n
    have h3 := h n (by omega)
    have : progW.length = 7 := rfl
    unfold progT
    simp only [List.length_append, List.length_cons]
    omega
theorem textT_len (T : Nat → ByteArray) (n : Nat) (h : ∀ k, k < n → (T k).size ≤ 64) : (textT T n).length ≤ 200 * n := by
  induction n with
  | zero => simp [textT]
  | succ n ih =>
    have h1 := ih (fun k hk => h k (by omega))
    have h2 := (wordB_facts (T n).data.toList).2
    have h3 := h n (by omega)
    have h4 : (T n).data.toList.length = (T n).size := sz_list _
    have : textW.length = 4 := rfl
    unfold textT
    simp only [List.length_append, List.length_cons, List.length_nil]
    omega
end Go.Proofs.YteblhklclcjonaaGreatDoor
namespace Go.Proofs.YteblhklclcjonaaGreatDoor
open Go.RowKit
set_option linter.unusedVariables false
set_option linter.all false
set_option maxRecDepth 20000

def insEq (i j : Ins) : Bool := i.op == j.op && (i.d == j.d && (i.a == j.a && (i.b == j.b && i.imm == j.imm)))
theorem insEq_iff (i j : Ins) : insEq i j = true ↔ i = j := by
  obtain ⟨a, b, c, d, e⟩ := i
  obtain ⟨a', b', c', d', e'⟩ := j
  simp [insEq]
theorem insEq_self (i : Ins) : insEq i i = true := (insEq_iff i i).2 rfl
theorem neq25 (a1 a2 a3 a4 a5 b1 b2 b3 b4 b5 : Int) (W : World) : (binOp .neq 99 (.agg #[.int .i64 a1, .int .i64 a2, .int .i64 a3, .int .i64 a4, .int .i64 a5]) (.agg #[.int .i64 b1, .int .i64 b2, .int .i64 b3, .int .i64 b4, .int .i64 b5])).run Tryz.prog W = .ok (.bool (!(a1 == b1 && (a2 == b2 && (a3 == b3 && (a4 == b4 && a5 == b5)))))) W := by
  by_cases h1 : a1 = b1 <;> by_cases h2 : a2 = b2 <;> by_cases h3 : a3 = b3 <;> by_cases h4 : a4 = b4 <;> by_cases h5 : a5 = b5 <;> simp [go_sem, h1, h2, h3, h4, h5]
/-- Whether two programs are the same. -/
def sameB (n : Nat) (f : Nat → Ins) (m : Nat) (g : Nat → Ins) : Bool := decide (n = m) && decide (fb (fun k => !insEq (f k) (g k)) n = -1)
set_option maxHeartbeats 4000000 in
theorem rsame_any (A : Option Addr) (n c : Nat) (f : Nat → Ins) (B : Option Addr) (m c' : Nat) (g : Nat → Ins) (w : World) (hA : InsAt w A n f) (hB : InsAt w B m g) (hn : n ≤ maxLen) : Calls Tryz.prog 73 #[.slice A n c, .slice B m c'] w fun e w' => e = .returned (.bool (sameB n f m g)) ∧ Only [] w w' := by
  unfold maxLen at hn
  by_cases hnm : n = m
  · subst hnm
    have HA := hide hA
    have HB := hide hB
    have e0 : ((n : Int) != (n : Int)) = false := by simp
    clear hA hB
    go_enter Tryz.func73, Tryz.ntmps73
    go_wp2_with fail
    go_loopw [5] (fun v4 wr => ∃ q : Nat, q ≤ n ∧ v4 = .int .i64 q ∧ Hid (∀ j, j < q → (!insEq (f j) (g j)) = false) ∧ Hid (Only [] w wr)) (fun v4 _ => n - (intOf v4).toNat)
    case atStart => exact ⟨0, by omega, rfl, hide (fun j hj => by omega), hide (Only.refl _ _)⟩
    case round =>
      obtain ⟨q, hq, rfl, hz, hO⟩ := hrel
      by_cases hqn : q < n
      · obtain ⟨a, rfl, e0, e1, e2, e3, e4⟩ := HA.out q hqn
        obtain ⟨b, rfl, f0, f1, f2, f3, f4⟩ := HB.out q hqn
        have c0 := hO.out.keep0 e0
        have c1 := hO.out.keep0 e1
        have c2 := hO.out.keep0 e2
        have c3 := hO.out.keep0 e3
        have c4 := hO.out.keep0 e4
        have d0 := hO.out.keep0 f0
        have d1 := hO.out.keep0 f1
        have d2 := hO.out.keep0 f2
        have d3 := hO.out.keep0 f3
        have d4 := hO.out.keep0 f4
        have j0 : (0 : Int) ≤ (q : Int) := by omega
        have j1 : (q : Int) < (n : Int) := by omega
        have NQ := neq25 (f q).op (f q).d (f q).a (f q).b (f q).imm (g q).op (g q).d (g q).a (g q).b (g q).imm
        obtain ⟨z, hz'⟩ : ∃ z, insEq (f q) (g q) = z := ⟨_, rfl⟩
        have NQ' := fun W => (NQ W).trans (by rw [show ((f q).op == (g q).op && ((f q).d == (g q).d && ((f q).a == (g q).a && ((f q).b == (g q).b && (f q).imm == (g q).imm)))) = z from hz'])
        have HZ := hide hz'
        clear e0 e1 e2 e3 e4 f0 f1 f2 f3 f4 hz' NQ
        cases z with
        | true =>
          go_wp2_with fail
          go_quiet (fail)
          go_wp2_with fail
          go_roundw
          case rel => exact ⟨q + 1, by omega, by go_num, hide (fun j hj => by
            rcases (by omega : j < q ∨ j = q) with h | h
            · exact hz.out j h
            · subst h; rw [HZ.out]; rfl), hide (hO.out.drewN _)⟩
          case measure => simp [intOf]; omega
        | false =>
          have hfb := hide (fb_at (g := fun k => !insEq (f k) (g k)) hqn (by show (!insEq (f q) (g q)) = true; rw [HZ.out]; rfl) hz.out)
          go_wp2_with fail
          go_quiet (fail)
          go_wp2_with fail
          go_ret
          exact ⟨by unfold sameB; rw [hfb.out]; simp <;> (first | rfl | omega | exact (by intro h; omega)), hO.out.drewN _⟩
      · obtain rfl : q = n := by omega
        have hfb := hide (fb_none (g := fun k => !insEq (f k) (g k)) hz.out)
        go_wp2_with fail
        go_ret
        exact ⟨by unfold sameB; rw [hfb.out]; simp <;> rfl, hO.out⟩
  · have e0 : ((n : Int) != (m : Int)) = true := by simp; omega
    have e1 : ¬ ((n : Int) = (m : Int)) := by omega
    clear hA hB
    go_enter Tryz.func73, Tryz.ntmps73
    go_wp2_with fail
    go_ret
    exact ⟨by unfold sameB; rw [decide_eq_false hnm]; rfl, Only.refl _ _⟩
set_option maxHeartbeats 4000000 in
theorem equal_any (A : Option Addr) (n c : Nat) (f : Nat → Ins) (B : Option Addr) (m c' : Nat) (g : Nat → Ins) (w : World) (hA : InsAt w A n f) (hB : InsAt w B m g) (hn : n ≤ maxLen) : Calls Tryz.prog 82 #[.slice A n c, .slice B m c'] w fun e w' => e = .returned (.bool (sameB n f m g)) ∧ Only [] w w' := by
  unfold maxLen at hn
  by_cases hnm : n = m
  · subst hnm
    have HA := hide hA
    have HB := hide hB
    have e0 : ((n : Int) != (n : Int)) = false := by simp
    clear hA hB
    go_enter Tryz.func82, Tryz.ntmps82
    go_wp2_with fail
    go_loopw [13] (fun v4 wr => ∃ q : Nat, q ≤ n ∧ v4 = .int .i64 q ∧ Hid (∀ j, j < q → (!insEq (f j) (g j)) = false) ∧ Hid (Only [] w wr)) (fun v4 _ => n - (intOf v4).toNat)
    case atStart => exact ⟨0, by omega, rfl, hide (fun j hj => by omega), hide (Only.refl _ _)⟩
    case round =>
      obtain ⟨q, hq, rfl, hz, hO⟩ := hrel
      by_cases hqn : q < n
      · obtain ⟨a, rfl, e0, e1, e2, e3, e4⟩ := HA.out q hqn
        obtain ⟨b, rfl, f0, f1, f2, f3, f4⟩ := HB.out q hqn
        have c0 := hO.out.keep0 e0
        have c1 := hO.out.keep0 e1
        have c2 := hO.out.keep0 e2
        have c3 := hO.out.keep0 e3
        have c4 := hO.out.keep0 e4
        have d0 := hO.out.keep0 f0
        have d1 := hO.out.keep0 f1
        have d2 := hO.out.keep0 f2
        have d3 := hO.out.keep0 f3
        have d4 := hO.out.keep0 f4
        have j0 : (0 : Int) ≤ (q : Int) := by omega
        have j1 : (q : Int) < (n : Int) := by omega
        have NQ := neq25 (f q).op (f q).d (f q).a (f q).b (f q).imm (g q).op (g q).d (g q).a (g q).b (g q).imm
        obtain ⟨z, hz'⟩ : ∃ z, insEq (f q) (g q) = z := ⟨_, rfl⟩
        have NQ' := fun W => (NQ W).trans (by rw [show ((f q).op == (g q).op && ((f q).d == (g q).d && ((f q).a == (g q).a && ((f q).b == (g q).b && (f q).imm == (g q).imm)))) = z from hz'])
        have HZ := hide hz'
        clear e0 e1 e2 e3 e4 f0 f1 f2 f3 f4 hz' NQ
        cases z with
        | true =>
          go_wp2_with fail
          go_quiet (fail)
          go_wp2_with fail
          go_roundw
          case rel => exact ⟨q + 1, by omega, by go_num, hide (fun j hj => by
            rcases (by omega : j < q ∨ j = q) with h | h
            · exact hz.out j h
            · subst h; rw [HZ.out]; rfl), hide (hO.out.drewN _)⟩
          case measure => simp [intOf]; omega
        | false =>
          have hfb := hide (fb_at (g := fun k => !insEq (f k) (g k)) hqn (by show (!insEq (f q) (g q)) = true; rw [HZ.out]; rfl) hz.out)
          go_wp2_with fail
          go_quiet (fail)
          go_wp2_with fail
          go_ret
          exact ⟨by unfold sameB; rw [hfb.out]; simp <;> (first | rfl | omega | exact (by intro h; omega)), hO.out.drewN _⟩
      · obtain rfl : q = n := by omega
        have hfb := hide (fb_none (g := fun k => !insEq (f k) (g k)) hz.out)
        go_wp2_with fail
        go_ret
        exact ⟨by unfold sameB; rw [hfb.out]; simp <;> rfl, hO.out⟩
  · have e0 : ((n : Int) != (m : Int)) = true := by simp; omega
    have e1 : ¬ ((n : Int) = (m : Int)) := by omega
    clear hA hB
    go_enter Tryz.func82, Tryz.ntmps82
    go_wp2_with fail
    go_ret
    exact ⟨by unfold sameB; rw [decide_eq_false hnm]; rfl, Only.refl _ _⟩
theorem same_any (A : Option Addr) (n c : Nat) (f : Nat → Ins) (B : Option Addr) (m c' : Nat) (g : Nat → Ins) (w : World) (hA : InsAt w A n f) (hB : InsAt w B m g) (hn : n ≤ maxLen) : Calls Tryz.prog 56 #[.slice A n c, .slice B m c'] w fun e w' => e = .returned (.bool (sameB n f m g)) ∧ Only [] w w' := by
  have EQ := hide (equal_any A n c f B m c' g w hA hB hn)
  obtain ⟨z, hz⟩ : ∃ z, sameB n f m g = z := ⟨_, rfl⟩
  rw [hz] at EQ ⊢
  clear hA hB hz
  go_enter Tryz.func56, Tryz.ntmps56
  go_wp2_with (go_at_call 82; (with_reducible refine EQ.out.mono ?_); rintro e w1 ⟨rfl, o⟩; have O2 := hide o; clear o)
  go_ret
  exact ⟨rfl, O2.out⟩
end Go.Proofs.YteblhklclcjonaaGreatDoor
namespace Go.Proofs.YteblhklclcjonaaGreatDoor
open Go.RowKit
set_option linter.unusedVariables false
set_option linter.all false
set_option maxRecDepth 20000

/-- Whether two rows are the same, element by element. -/
def eqG (n m : Nat) (d : Nat → Bool) : Bool := decide (n = m) && decide (fb (fun k => !d k) n = -1)
theorem eqG_iff (n m : Nat) (d : Nat → Bool) : eqG n m d = true ↔ n = m ∧ ∀ k, k < n → d k = true := by
  unfold eqG
  simp only [Bool.and_eq_true, decide_eq_true_eq]
  constructor
  · rintro ⟨h, h2⟩
    refine ⟨h, fun k hk => ?_⟩
    have := fb_all (g := fun k => !d k) (n := n) (by omega) k hk
    simpa using this
  · rintro ⟨h, h2⟩
    exact ⟨h, fb_none (fun j hj => by simp [h2 j hj])⟩
theorem neqEv (a b c d : Int) (W : World) : (binOp .neq 24 (.agg #[.int .i64 a, .int .i64 b]) (.agg #[.int .i64 c, .int .i64 d])).run Tryz.prog W = .ok (.bool (!(a == c && b == d))) W := by
  by_cases h1 : a = c <;> by_cases h2 : b = d <;> simp [go_sem, h1, h2]
theorem bytes_ne {x y : ByteArray} (h : ¬ x = y) : (x.toList == y.toList) = false := by
  cases hb : (x.toList == y.toList) with
  | false => rfl
  | true =>
    refine absurd ?_ h
    have := beq_iff_eq.1 hb
    rw [ByteArray.toList_eq, ByteArray.toList_eq] at this
    exact ByteArray.ext (Array.toList_inj.1 this)
def evEq (e f : Ev) : Bool := e.kind == f.kind && e.num == f.num
theorem evEq_iff (e f : Ev) : evEq e f = true ↔ e = f := by
  obtain ⟨a, b⟩ := e
  obtain ⟨c, d⟩ := f
  simp [evEq]
set_option maxHeartbeats 4000000 in
theorem equalT_any (A : Option Addr) (n c : Nat) (f : Nat → ByteArray) (B : Option Addr) (m c' : Nat) (g : Nat → ByteArray) (w : World) (hA : TxsAt w A n f) (hB : TxsAt w B m g) (hn : n ≤ maxLen) : Calls Tryz.prog 57 #[.slice A n c, .slice B m c'] w fun e w' => e = .returned (.bool (eqG n m (fun k => decide (f k = g k)))) ∧ Only [] w w' := by
  unfold maxLen at hn
  by_cases hnm : n = m
  · subst hnm
    have HA := hide hA
    have HB := hide hB
    have e0 : ((n : Int) != (n : Int)) = false := by simp
    clear hA hB
    go_enter Tryz.func57, Tryz.ntmps57
    go_wp2_with fail
    go_loopw [13] (fun v4 wr => ∃ q : Nat, q ≤ n ∧ v4 = .int .i64 q ∧ Hid (∀ j, j < q → (!decide (f j = g j)) = false) ∧ Hid (Only [] w wr)) (fun v4 _ => n - (intOf v4).toNat)
    case atStart => exact ⟨0, by omega, rfl, hide (fun j hj => by omega), hide (Only.refl _ _)⟩
    case round =>
      obtain ⟨q, hq, rfl, hz, hO⟩ := hrel
      by_cases hqn : q < n
      · obtain ⟨a, rfl, e0⟩ := HA.out q hqn
        obtain ⟨b, rfl, f0⟩ := HB.out q hqn
        have c0 := hO.out.keep0 e0
        have d0 := hO.out.keep0 f0
        obtain ⟨x, hx⟩ : ∃ x, f q = x := ⟨_, rfl⟩
        obtain ⟨y, hy⟩ : ∃ y, g q = y := ⟨_, rfl⟩
        rw [hx] at c0
        rw [hy] at d0
        clear e0 f0
        have j0 : (0 : Int) ≤ (q : Int) := by omega
        have j1 : (q : Int) < (n : Int) := by omega
        obtain ⟨z, hz'⟩ : ∃ z, decide (f q = g q) = z := ⟨_, rfl⟩
        have HZ := hide hz'
        cases z with
        | true =>
          have hxy : x = y := by rw [hx, hy] at hz'; exact of_decide_eq_true hz'
          clear hz' hx hy
          subst hxy
          have bq : (x.toList == x.toList) = true := by simp
          go_wp2_with fail
          go_quiet (fail)
          go_wp2_with fail
          go_roundw
          case rel => exact ⟨q + 1, by omega, by go_num, hide (fun j hj => by
            rcases (by omega : j < q ∨ j = q) with h | h
            · exact hz.out j h
            · subst h; rw [HZ.out]; rfl), hide (hO.out.drewN _)⟩
          case measure => simp [intOf]; omega
        | false =>
          have hfb := hide (fb_at (g := fun k => !decide (f k = g k)) hqn (by show (!decide (f q = g q)) = true; rw [HZ.out]; rfl) hz.out)
          have hxy : ¬ x = y := by rw [hx, hy] at hz'; exact of_decide_eq_false hz'
          clear hz' hx hy
          have bq := bytes_ne hxy
          go_wp2_with fail
          go_quiet (fail)
          go_wp2_with fail
          go_ret
          exact ⟨by unfold eqG; rw [hfb.out]; simp <;> (first | rfl | omega | exact (by intro h; omega)), hO.out.drewN _⟩
      · obtain rfl : q = n := by omega
        have hfb := hide (fb_none (g := fun k => !decide (f k = g k)) hz.out)
        go_wp2_with fail
        go_ret
        exact ⟨by unfold eqG; rw [hfb.out]; simp <;> rfl, hO.out⟩
  · have e0 : ((n : Int) != (m : Int)) = true := by simp; omega
    have e1 : ¬ ((n : Int) = (m : Int)) := by omega
    clear hA hB
    go_enter Tryz.func57, Tryz.ntmps57
    go_wp2_with fail
    go_ret
    exact ⟨by unfold eqG; rw [decide_eq_false hnm]; rfl, Only.refl _ _⟩
set_option maxHeartbeats 4000000 in
theorem equalE_any (A : Option Addr) (n c : Nat) (f : Nat → Ev) (B : Option Addr) (m c' : Nat) (g : Nat → Ev) (w : World) (hA : EvAt w A n f) (hB : EvAt w B m g) (hn : n ≤ maxLen) : Calls Tryz.prog 58 #[.slice A n c, .slice B m c'] w fun e w' => e = .returned (.bool (eqG n m (fun k => evEq (f k) (g k)))) ∧ Only [] w w' := by
  unfold maxLen at hn
  by_cases hnm : n = m
  · subst hnm
    have HA := hide hA
    have HB := hide hB
    have e0 : ((n : Int) != (n : Int)) = false := by simp
    clear hA hB
    go_enter Tryz.func58, Tryz.ntmps58
    go_wp2_with fail
    go_loopw [13] (fun v4 wr => ∃ q : Nat, q ≤ n ∧ v4 = .int .i64 q ∧ Hid (∀ j, j < q → (!evEq (f j) (g j)) = false) ∧ Hid (Only [] w wr)) (fun v4 _ => n - (intOf v4).toNat)
    case atStart => exact ⟨0, by omega, rfl, hide (fun j hj => by omega), hide (Only.refl _ _)⟩
    case round =>
      obtain ⟨q, hq, rfl, hz, hO⟩ := hrel
      by_cases hqn : q < n
      · obtain ⟨a, rfl, e0, e1⟩ := HA.out q hqn
        obtain ⟨b, rfl, f0, f1⟩ := HB.out q hqn
        have c0 := hO.out.keep0 e0
        have c1 := hO.out.keep0 e1
        have d0 := hO.out.keep0 f0
        have d1 := hO.out.keep0 f1
        clear e0 e1 f0 f1
        have j0 : (0 : Int) ≤ (q : Int) := by omega
        have j1 : (q : Int) < (n : Int) := by omega
        obtain ⟨z, hz'⟩ : ∃ z, evEq (f q) (g q) = z := ⟨_, rfl⟩
        have HZ := hide hz'
        cases z with
        | true =>
          have NQ := fun W => (neqEv (f q).kind (f q).num (g q).kind (g q).num W).trans (by rw [show ((f q).kind == (g q).kind && (f q).num == (g q).num) = true from hz'])
          clear hz'
          go_wp2_with fail
          go_quiet (fail)
          go_wp2_with fail
          go_roundw
          case rel => exact ⟨q + 1, by omega, by go_num, hide (fun j hj => by
            rcases (by omega : j < q ∨ j = q) with h | h
            · exact hz.out j h
            · subst h; rw [HZ.out]; rfl), hide (hO.out.drewN _)⟩
          case measure => simp [intOf]; omega
        | false =>
          have hfb := hide (fb_at (g := fun k => !evEq (f k) (g k)) hqn (by show (!evEq (f q) (g q)) = true; rw [HZ.out]; rfl) hz.out)
          have NQ := fun W => (neqEv (f q).kind (f q).num (g q).kind (g q).num W).trans (by rw [show ((f q).kind == (g q).kind && (f q).num == (g q).num) = false from hz'])
          clear hz'
          go_wp2_with fail
          go_quiet (fail)
          go_wp2_with fail
          go_ret
          exact ⟨by unfold eqG; rw [hfb.out]; simp <;> (first | rfl | omega | exact (by intro h; omega)), hO.out.drewN _⟩
      · obtain rfl : q = n := by omega
        have hfb := hide (fb_none (g := fun k => !evEq (f k) (g k)) hz.out)
        go_wp2_with fail
        go_ret
        exact ⟨by unfold eqG; rw [hfb.out]; simp <;> rfl, hO.out⟩
  · have e0 : ((n : Int) != (m : Int)) = true := by simp; omega
    have e1 : ¬ ((n : Int) = (m : Int)) := by omega
    clear hA hB
    go_enter Tryz.func58, Tryz.ntmps58
    go_wp2_with fail
    go_ret
    exact ⟨by unfold eqG; rw [decide_eq_false hnm]; rfl, Only.refl _ _⟩
set_option maxHeartbeats 4000000 in
theorem equalP_any (A : Option Addr) (n c : Nat) (f : Nat → Pg) (B : Option Addr) (m c' : Nat) (g : Nat → Pg) (w : World) (hA : PgsAt w A n f) (hB : PgsAt w B m g) (hn : n ≤ maxLen) : Calls Tryz.prog 55 #[.slice A n c, .slice B m c', .func (.func 56) #[] #[]] w fun e w' => e = .returned (.bool (eqG n m (fun k => sameB (f k).n (f k).f (g k).n (g k).f))) ∧ Only [] w w' := by
  unfold maxLen at hn
  by_cases hnm : n = m
  · subst hnm
    have HA := hide hA
    have HB := hide hB
    have e0 : ((n : Int) != (n : Int)) = false := by simp
    clear hA hB
    go_enter Tryz.func55, Tryz.ntmps55
    go_wp2_with fail
    go_loopw [17] (fun v4 wr => ∃ q : Nat, q ≤ n ∧ v4 = .int .i64 q ∧ Hid (∀ j, j < q → (!sameB (f j).n (f j).f (g j).n (g j).f) = false) ∧ Hid (Only [] w wr)) (fun v4 _ => n - (intOf v4).toNat)
    case atStart => exact ⟨0, by omega, rfl, hide (fun j hj => by omega), hide (Only.refl _ _)⟩
    case round =>
      obtain ⟨q, hq, rfl, hz, hO⟩ := hrel
      by_cases hqn : q < n
      · obtain ⟨a, rfl, e0, e1, e2⟩ := HA.out q hqn
        obtain ⟨b, rfl, f0, f1, f2⟩ := HB.out q hqn
        have c0 := hO.out.keep0 e0
        have d0 := hO.out.keep0 f0
        have j0 : (0 : Int) ≤ (q : Int) := by omega
        have j1 : (q : Int) < (n : Int) := by omega
        obtain ⟨z, hz'⟩ : ∃ z, sameB (f q).n (f q).f (g q).n (g q).f = z := ⟨_, rfl⟩
        have HZ := hide hz'
        cases z with
        | true =>
          have SM := hide (fun W (o : Only [] w W) => (by have h := same_any (f q).A (f q).n (f q).c (f q).f (g q).A (g q).n (g q).c (g q).f W (e2.only0 o) (f2.only0 o) e1; rw [show sameB (f q).n (f q).f (g q).n (g q).f = true from hz'] at h; exact h : Calls Tryz.prog 56 #[.slice (f q).A (f q).n (f q).c, .slice (g q).A (g q).n (g q).c] W fun e w' => e = .returned (.bool true) ∧ Only [] W w'))
          clear hz' e0 f0
          go_wp2_with (go_at_call 56; (with_reducible refine (SM.out _ hO.out).mono ?_); rintro e w2 ⟨rfl, o⟩; have O2 := hide (hO.out.trans0 o); clear o)
          go_roundw
          case rel => exact ⟨q + 1, by omega, by go_num, hide (fun j hj => by
            rcases (by omega : j < q ∨ j = q) with h | h
            · exact hz.out j h
            · subst h; rw [HZ.out]; rfl), O2⟩
          case measure => simp [intOf]; omega
        | false =>
          have hfb := hide (fb_at (g := fun k => !sameB (f k).n (f k).f (g k).n (g k).f) hqn (by show (!sameB (f q).n (f q).f (g q).n (g q).f) = true; rw [HZ.out]; rfl) hz.out)
          have SM := hide (fun W (o : Only [] w W) => (by have h := same_any (f q).A (f q).n (f q).c (f q).f (g q).A (g q).n (g q).c (g q).f W (e2.only0 o) (f2.only0 o) e1; rw [show sameB (f q).n (f q).f (g q).n (g q).f = false from hz'] at h; exact h : Calls Tryz.prog 56 #[.slice (f q).A (f q).n (f q).c, .slice (g q).A (g q).n (g q).c] W fun e w' => e = .returned (.bool false) ∧ Only [] W w'))
          clear hz' e0 f0
          go_wp2_with (go_at_call 56; (with_reducible refine (SM.out _ hO.out).mono ?_); rintro e w2 ⟨rfl, o⟩; have O2 := hide (hO.out.trans0 o); clear o)
          go_ret
          exact ⟨by unfold eqG; rw [hfb.out]; simp <;> (first | rfl | omega | exact (by intro h; omega)), O2.out⟩
      · obtain rfl : q = n := by omega
        have hfb := hide (fb_none (g := fun k => !sameB (f k).n (f k).f (g k).n (g k).f) hz.out)
        go_wp2_with fail
        go_ret
        exact ⟨by unfold eqG; rw [hfb.out]; simp <;> rfl, hO.out⟩
  · have e0 : ((n : Int) != (m : Int)) = true := by simp; omega
    have e1 : ¬ ((n : Int) = (m : Int)) := by omega
    clear hA hB
    go_enter Tryz.func55, Tryz.ntmps55
    go_wp2_with fail
    go_ret
    exact ⟨by unfold eqG; rw [decide_eq_false hnm]; rfl, Only.refl _ _⟩
end Go.Proofs.YteblhklclcjonaaGreatDoor
