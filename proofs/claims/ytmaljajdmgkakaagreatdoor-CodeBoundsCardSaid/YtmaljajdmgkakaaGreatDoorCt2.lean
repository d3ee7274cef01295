/- Code: the walks of List, of the document's List. Condition: Env; the program's cells. -/
import Derived.Test.YtmaljajdmgkakaaGreatDoorCt1
import Derived.Test.YtmaljajdmgkakaaGreatDoorCdQ
import Derived.Test.YtmaljajdmgkakaaGreatDoorCdN
namespace Go.Proofs.YtmaljajdmgkakaaGreatDoor
open Go.RowKit
set_option linter.unusedVariables false
set_option linter.all false
set_option maxRecDepth 20000

/-- A program's text, up to an instruction. -/
def listB (f : Nat → Ins) : Nat → List UInt8
  | 0 => []
  | q + 1 => listB f q ++ (lineB (f q) ++ [10])
theorem listB_len (f : Nat → Ins) : ∀ q, (listB f q).length ≤ 121 * q
  | 0 => by simp [listB]
  | q + 1 => by
    have := listB_len f q
    have := lineB_len (f q)
    simp [listB]; omega
theorem immOk_le {k : Nat} {v a b : Int} (h : a ≤ b) (hm : immOk k v a = true) : immOk k v b = true := by
  unfold immOk at hm ⊢
  split at hm
  · exact hm
  · exact hm
  · simp at hm ⊢; omega
  · exact hm
theorem mayI_le {i : Ins} {a b : Int} (h : a ≤ b) (hm : mayI i a = true) : mayI i b = true := by
  unfold mayI at hm ⊢
  simp only [Bool.and_eq_true] at hm ⊢
  exact ⟨hm.1, immOk_le h hm.2⟩
/-- A program that may be. -/
structure Good (n : Nat) (f : Nat → Ins) : Prop where
  len : n ≤ 256
  may : ∀ k, k < n → mayI (f k) n = true
  imm : ∀ k, k < n → -9223372036854775808 ≤ (f k).imm ∧ (f k).imm ≤ 9223372036854775807
theorem Good.may256 {n : Nat} {f : Nat → Ins} (h : Good n f) {k : Nat} (hk : k < n) : mayI (f k) 256 = true := mayI_le (by have := h.len; omega) (h.may k hk)
theorem Good.chk {n : Nat} {f : Nat → Ins} (h : Good n f) : chkV n f = .tuple #[.int .i64 0, .int .i64 0] := by
  unfold chkV
  rw [if_neg (by have := h.len; omega), fb_none (fun j hj => by unfold badI; rw [h.may j hj]; rfl), if_neg (by omega)]
theorem bad_chk {n : Nat} {f : Nat → Ins} (h : badP n f = true) : ∃ x, chkV n f = .tuple #[.int .i64 x, .int .i64 2] := by
  obtain ⟨x, hx⟩ := chkV_bad n f
  rw [h] at hx
  exact ⟨x, hx⟩
theorem good_of {n : Nat} {f : Nat → Ins} (h : badP n f = false) (hi : ∀ k, k < n → -9223372036854775808 ≤ (f k).imm ∧ (f k).imm ≤ 9223372036854775807) : Good n f := by
  unfold badP at h
  simp at h
  refine ⟨by omega, fun k hk => ?_, hi⟩
  cases hm : mayI (f k) n with
  | true => rfl
  | false =>
    rcases fb_ge (badI f n) n with h1 | ⟨j, _, h1, _⟩
    · exfalso
      have hmin : ∃ k, k < n ∧ badI f n k = true ∧ ∀ j, j < k → badI f n j = false := by
        have hk0 : ∃ k, k < n ∧ badI f n k = true := ⟨k, hk, by unfold badI; rw [hm]; rfl⟩
        clear h h1 hi hm hk
        obtain ⟨k, hk, hb⟩ := hk0
        induction k using Nat.strongRecOn with
        | _ k ih =>
          by_cases hj : ∃ j, j < k ∧ badI f n j = true
          · obtain ⟨j, hj1, hj2⟩ := hj
            exact ih j hj1 (by omega) hj2
          · exact ⟨k, hk, hb, fun j hj1 => by
              cases hc : badI f n j with
              | false => rfl
              | true => exact absurd ⟨j, hj1, hc⟩ hj⟩
      obtain ⟨j, hj1, hj2, hj3⟩ := hmin
      rw [fb_at hj1 hj2 hj3] at h1
      omega
    · omega
theorem list_bad (A : Option Addr) (n c : Nat) (f : Nat → Ins) (w : World) (hA : InsAt w A n f) (hn : n ≤ maxLen) (hb : badP n f = true) : Calls Tryz.prog 6 #[.slice A n c] w fun e w' => e = .returned (.tuple #[.string ⟨#[]⟩, .int .i64 2]) ∧ Only [] w w' := by
  have CK := check_any A n c f w hA hn
  obtain ⟨x, hx⟩ := bad_chk hb
  rw [hx] at CK
  have CK := hide CK
  clear hA hx hb
  go_enter Tryz.func6, Tryz.ntmps6
  go_wp2_with (go_at_call 7; (with_reducible refine CK.out.mono ?_); rintro e w1 ⟨rfl, o⟩; have O2 := hide o; clear o)
  go_ret2
  exact ⟨rfl, O2.out⟩
set_option maxHeartbeats 4000000 in
theorem list_good (A : Option Addr) (n c : Nat) (f : Nat → Ins) (w : World) (he : Env w) (hA : InsAt w A n f) (hg : Good n f) : Calls Tryz.prog 6 #[.slice A n c] w fun e w' => e = .returned (.tuple #[.string (bs (listB f n)), .int .i64 0]) ∧ Only [] w w' := by
  have hn := hg.len
  have CK := check_any A n c f w hA (by unfold maxLen; omega)
  rw [hg.chk] at CK
  have CK := hide CK
  have HA := hide hA
  have HE := hide he
  have HG := hide hg
  clear hA he hg
  go_enter Tryz.func6, Tryz.ntmps6
  go_wp2_with (go_at_call 7; (with_reducible refine CK.out.mono ?_); rintro e w1 ⟨rfl, o⟩; have O1 := hide o; have hs1 := o.size; have BN := hide (Bd.new w1 w.heap.size hs1); have OB := hide ((o.alloc (.cells #[.pointer none, .slice none 0 0] 57)).below); clear o)
  obtain ⟨b, hb⟩ : ∃ b, w1.heap.size = b := ⟨_, rfl⟩
  rw [hb] at BN
  simp only [hb]
  obtain ⟨V, hV⟩ : ∃ V, w1.alloc (.cells #[.pointer none, .slice none 0 0] 57) = V := ⟨_, rfl⟩
  rw [hV] at BN OB ⊢
  clear hV hb O1 hs1 CK
  go_loopw [21] (fun v21 wr => ∃ q : Nat, q ≤ n ∧ v21 = .int .i64 q ∧ Hid (Bd wr w.heap.size b (listB f q)) ∧ Hid (Below w.heap.size w wr)) (fun v21 _ => n - (intOf v21).toNat)
  case atStart => exact ⟨0, by omega, rfl, BN, OB⟩
  case round =>
    clear BN OB
    obtain ⟨q, hq, rfl, hB, hO⟩ := hrel
    have O := hide (show Only [] w wr from Only.ofBelow hO.out)
    by_cases hqn : q < n
    · obtain ⟨a, rfl, e0, e1, e2, e3, e4⟩ := HA.out q hqn
      have c0 := O.out.keep0 e0
      have c1 := O.out.keep0 e1
      have c2 := O.out.keep0 e2
      have c3 := O.out.keep0 e3
      have c4 := O.out.keep0 e4
      have j0 : (0 : Int) ≤ (q : Int) := by omega
      have j1 : (q : Int) < (n : Int) := by omega
      have him := HG.out.imm q hqn
      have LN := fun W (oo : Only [] w W) => line_any (f q) W (HE.out.only oo) him.1 him.2
      have hst := hide (show listB f (q + 1) = listB f q ++ (lineB (f q) ++ [10]) from rfl)
      have hll := listB_len f q
      have hl2 := lineB_len (f q)
      rw [HG.out.may256 hqn] at LN
      simp only [if_true] at LN
      obtain ⟨o, ho⟩ : ∃ x, (f q).op = x := ⟨_, rfl⟩
      obtain ⟨d, hd⟩ : ∃ x, (f q).d = x := ⟨_, rfl⟩
      obtain ⟨a', ha⟩ : ∃ x, (f q).a = x := ⟨_, rfl⟩
      obtain ⟨b', hb'⟩ : ∃ x, (f q).b = x := ⟨_, rfl⟩
      obtain ⟨m, hm⟩ : ∃ x, (f q).imm = x := ⟨_, rfl⟩
      unfold insV at LN
      rw [ho, hd, ha, hb', hm] at LN
      rw [ho] at c0
      rw [hd] at c1
      rw [ha] at c2
      rw [hb'] at c3
      rw [hm] at c4
      have hcat : bs (lineB (f q)) ++ (⟨#[10]⟩ : ByteArray) = bs (lineB (f q) ++ [10]) := bs_app (lineB (f q)) [10]
      have z1 : ¬ 9223372036854775807 < (bs (lineB (f q))).size + (⟨#[10]⟩ : ByteArray).size := by rw [bs_size, show (⟨#[10]⟩ : ByteArray).size = 1 from rfl]; omega
      have WR := hide (fun W (hh : Bd W w.heap.size b (listB f q)) (hs : w.heap.size ≤ W.heap.size) => write_any w.heap.size b (listB f q) (bs (lineB (f q) ++ [10])) W hh (by rw [bs_size]; simp; omega) hs)
      rw [bs_list] at WR
      obtain ⟨sl, hsl⟩ : ∃ x, bs (lineB (f q)) = x := ⟨_, rfl⟩
      obtain ⟨s2, hs2⟩ : ∃ x, bs (lineB (f q) ++ [10]) = x := ⟨_, rfl⟩
      rw [hsl] at LN hcat z1
      rw [hs2] at hcat WR
      have LN := hide LN
      have nb := Blk.new wr 25 #[.int .i64 o, .int .i64 d, .int .i64 a', .int .i64 b', .int .i64 m]
      have OA := hide (O.out.alloc (.cells #[.int .i64 o, .int .i64 d, .int .i64 a', .int .i64 b', .int .i64 m] 25))
      have HB := hide (hB.out.only0 ((Only.refl [] wr).alloc (.cells #[.int .i64 o, .int .i64 d, .int .i64 a', .int .i64 b', .int .i64 m] 25)))
      have k0 := nb.cell 0
      have k1 := nb.cell 1
      have k2 := nb.cell 2
      have k3 := nb.cell 3
      have k4 := nb.cell 4
      clear e0 e1 e2 e3 e4 him ho hd ha hb' hm hsl hs2 nb hll hl2 hB hO O
      go_wp2_with (first
        | (go_at_call 10; (with_reducible refine (LN.out _ OA.out).mono ?_); rintro e w3 ⟨rfl, o3⟩; have O3 := hide (OA.out.trans0 o3); have HB3 := hide (HB.out.only0 o3); clear o3 k0 k1 k2 k3 k4)
        | (go_at_call 21; (with_reducible refine (WR.out _ HB3.out O3.out.size).mono ?_); rintro e w4 ⟨rfl, h4, b4⟩; have HB4 := hide h4; have O4 := hide (O3.out.below.trans b4); clear h4 b4))
      go_roundw
      case rel => exact ⟨q + 1, by omega, by go_num, by rw [hst.out]; exact HB4, O4⟩
      case measure => simp [intOf]; omega
    · obtain rfl : q = n := by omega
      have ST := hide (string_any w.heap.size b (listB f q) wr hB.out O.out.size)
      clear hqn hq
      go_wp2_with (go_at_call 22; (with_reducible refine ST.out.mono ?_); rintro e w4 ⟨rfl, b4⟩; have O4 := hide (hO.out.trans b4); clear b4)
      go_ret2
      exact ⟨rfl, Only.ofBelow O4.out⟩
end Go.Proofs.YtmaljajdmgkakaaGreatDoor
