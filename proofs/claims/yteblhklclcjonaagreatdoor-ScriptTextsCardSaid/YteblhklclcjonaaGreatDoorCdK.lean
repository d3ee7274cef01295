/- Code, the document's: the walk of May. No condition. -/
import Derived.Test.YteblhklclcjonaaGreatDoorCdIq
namespace Go.Proofs.YteblhklclcjonaaGreatDoor
open Go.RowKit
set_option linter.unusedVariables false
set_option linter.all false
set_option maxRecDepth 20000

def okG (n : Nat → Bool) (l : Nat → Int) : Nat → Bool
  | 0 => true
  | q + 1 => okG n l q && regOk (n q) (l q)
theorem okG_three (d a b : Bool) (x y z : Int) : okG (nB d a b) (lB x y z) 3 = (regOk d x && (regOk a y && regOk b z)) := by
  simp [okG, nB, lB, Bool.and_assoc]
theorem okG_bad (n : Nat → Bool) (l : Nat → Int) (q : Nat) (h : regOk (n q) (l q) = false) : ∀ r, q < r → okG n l r = false
  | 0, hr => by omega
  | r + 1, hr => by
    by_cases he : q = r
    · subst he; simp [okG, h]
    · simp [okG, okG_bad n l q h r (by omega)]
set_option maxHeartbeats 8000000 in
theorem rmay_gen (i : Ins) (len : Int) (sd sa sb so : Bool) (m : Nat) (hm : m = 0 ∨ m = 1 ∨ m = 2 ∨ m = 3) (NM : ∀ W, Calls Tryz.prog 74 #[.int .i64 i.op] W fun e w' => e = .returned (.tuple #[.agg #[.bool sd, .bool sa, .bool sb], .int .i64 m, .bool so]) ∧ Only [] W w') (w : World) :
    Calls Tryz.prog 98 #[.agg (insV i), .int .i64 len] w fun e w' => e = .returned (.bool ((regOk sd i.d && (regOk sa i.a && regOk sb i.b)) && (so && immOk m i.imm len))) ∧ Only [] w w' := by
  obtain ⟨o, d, a, b, imm⟩ := i
  have b1 := Blk.new w 99 (insV ⟨o, d, a, b, imm⟩)
  have o1 := (Only.refl [] w).alloc (.cells (insV ⟨o, d, a, b, imm⟩) 99)
  unfold insV at b1 o1 ⊢
  have x0 := b1.cell 0
  rw [← okG_three]
  simp only at NM ⊢
  have NM := hide NM
  have B1 := hide b1
  have O1 := hide o1
  clear b1 o1
  go_enter Tryz.func98, Tryz.ntmps98
  go_wp2_with (go_at_call 74; (with_reducible refine (NM.out _).mono ?_); rintro e u1 ⟨rfl, o2⟩; have b2 := (B1.out.only o2 (by simp)).alloc (.cells #[.bool sd, .bool sa, .bool sb] 127); have i1 := b2.cell 1; have i2 := b2.cell 2; have i3 := b2.cell 3; have O2 := hide (O1.out.trans0 o2); have B2 := hide b2; clear x0 o2 b2 B1 O1)
  clear i1 i2 i3
  obtain ⟨X, hX⟩ : ∃ X, w.heap.size = X := ⟨_, rfl⟩
  obtain ⟨Y, hY⟩ : ∃ Y, u1.heap.size = Y := ⟨_, rfl⟩
  have bN := (Blk.new u1 127 #[.bool sd, .bool sa, .bool sb]).alloc (.cells #[.int .i64 d, .int .i64 a, .int .i64 b] 111)
  have bL := Blk.new (u1.alloc (.cells #[.bool sd, .bool sa, .bool sb] 127)) 111 #[.int .i64 d, .int .i64 a, .int .i64 b]
  have bI := B2.out.alloc (.cells #[.int .i64 d, .int .i64 a, .int .i64 b] 111)
  have o3 := (O2.out.alloc (.cells #[.bool sd, .bool sa, .bool sb] 127)).alloc (.cells #[.int .i64 d, .int .i64 a, .int .i64 b] 111)
  rw [World.size_alloc, hY] at bL
  rw [hY] at bN
  simp only [hX, hY] at bI ⊢
  obtain ⟨U, hU⟩ : ∃ U, (u1.alloc (.cells #[.bool sd, .bool sa, .bool sb] 127)).alloc (.cells #[.int .i64 d, .int .i64 a, .int .i64 b] 111) = U := ⟨_, rfl⟩
  rw [hU] at bN bL o3 bI ⊢
  have CN := hide (fun q (hq : q < 3) => (bN.cell q).trans (nB_get sd sa sb q hq))
  have CL := hide (fun q (hq : q < 3) => (bL.cell q).trans (lB_get d a b q hq))
  have CI := hide (show U.cell? ⟨X, 4, none⟩ = some (.int .i64 imm) from bI.cell 4)
  have OU := hide o3
  have HM := hide hm
  clear hU hX hY bN bL o3 bI O2 B2 NM hm
  go_loopw [9] (fun vi wr => ∃ q : Nat, q ≤ 3 ∧ vi = .int .i64 q ∧ okG (nB sd sa sb) (lB d a b) q = true ∧ U = wr) (fun vi _ => 3 - (intOf vi).toNat)
  case atStart => exact ⟨0, by omega, rfl, rfl, (by first | rfl | trivial)⟩
  case round =>
    obtain ⟨q, hq, rfl, hg, hw⟩ := hrel
    obtain rfl := hw
    by_cases hq3 : q < 3
    · have cN := CN.out q hq3
      have cL := CL.out q hq3
      have hst : okG (nB sd sa sb) (lB d a b) (q + 1) = (okG (nB sd sa sb) (lB d a b) q && regOk (nB sd sa sb q) (lB d a b q)) := rfl
      have hbad := okG_bad (nB sd sa sb) (lB d a b) q
      obtain ⟨nq, hnq⟩ : ∃ nq, nB sd sa sb q = nq := ⟨_, rfl⟩
      obtain ⟨lq, hlq⟩ : ∃ lq, lB d a b q = lq := ⟨_, rfl⟩
      rw [hnq, hlq] at hst hbad
      rw [hnq] at cN
      rw [hlq] at cL
      rw [hg] at hst
      have HST := hide hst
      have HBAD := hide (fun h => hbad h 3 hq3)
      have j0 : (q : Int) < 3 := by omega
      have j1 : (0 : Int) ≤ (q : Int) := by omega
      clear hnq hlq hst hbad hg CN CL
      cases nq
      · by_cases h0 : lq = 0
        · have e0 : (lq != 0) = false := by simp [h0]
          have e1 : (lq == 0) = true := by simp [h0]
          have HR := hide (show regOk false lq = true by simp [regOk, h0])
          clear h0
          go_wp2_with fail
          go_roundw
          case rel => exact ⟨q + 1, by omega, by go_num, by rw [HST.out, HR.out]; rfl, (by first | rfl | trivial)⟩
          case measure => simp [intOf]; omega
        · have e0 : (lq != 0) = true := by simp [h0]
          have e1 : (lq == 0) = false := by simp [h0]
          have HR := hide (HBAD.out (show regOk false lq = false by simp [regOk, h0]))
          clear h0
          go_wp2_with fail
          all_goals go_ret
          all_goals exact ⟨by rw [HR.out]; rfl, OU.out⟩
      · by_cases h0 : lq < 0
        · have e0 : decide (lq < 0) = true := decide_eq_true h0
          have HR := hide (HBAD.out (show regOk true lq = false by simp [regOk]; omega))
          go_wp2_with fail
          all_goals go_ret
          all_goals exact ⟨by rw [HR.out]; rfl, OU.out⟩
        · have e0 : decide (lq < 0) = false := decide_eq_false h0
          by_cases h7 : 7 < lq
          · have e7 : decide (7 < lq) = true := decide_eq_true h7
            have HR := hide (HBAD.out (show regOk true lq = false by simp [regOk]; omega))
            go_wp2_with fail
            all_goals go_ret
            all_goals exact ⟨by rw [HR.out]; rfl, OU.out⟩
          · have e7 : decide (7 < lq) = false := decide_eq_false h7
            have HR := hide (show regOk true lq = true by simp [regOk]; omega)
            clear h7 h0
            go_wp2_with fail
            go_roundw
            case rel => exact ⟨q + 1, by omega, by go_num, by rw [HST.out, HR.out]; rfl, (by first | rfl | trivial)⟩
            case measure => simp [intOf]; omega
    · obtain rfl : q = 3 := by omega
      have HG := hide hg
      clear CN CL hg
      have ci := CI.out
      cases so
      · rcases HM.out with rfl | rfl | rfl | rfl
        all_goals (clear HM; go_wp2_with fail)
        all_goals go_ret
        all_goals (refine ⟨?_, OU.out⟩; rw [HG.out]; simp [immOk])
      · have hI0 : immOk 0 imm len = (imm == 0) := by simp [immOk]; rfl
        have hI2 : immOk 2 imm len = (decide (0 ≤ imm) && decide (imm ≤ len)) := rfl
        have hI3 : immOk 3 imm len = (decide (0 ≤ imm) && decide (imm ≤ 255)) := rfl
        obtain ⟨x, hx⟩ : ∃ x, (imm == 0) = x := ⟨_, rfl⟩
        obtain ⟨y, hy⟩ : ∃ y, decide (0 ≤ imm) = y := ⟨_, rfl⟩
        obtain ⟨z, hz⟩ : ∃ z, decide (imm ≤ len) = z := ⟨_, rfl⟩
        obtain ⟨t, ht⟩ : ∃ t, decide (imm ≤ 255) = t := ⟨_, rfl⟩
        rw [hx] at hI0
        rw [hy, hz] at hI2
        rw [hy, ht] at hI3
        have I0 := hide hI0
        have I2 := hide hI2
        have I3 := hide hI3
        clear hI0 hI2 hI3
        rcases HM.out with rfl | rfl | rfl | rfl
        · clear HM I2 I3
          cases x <;> (go_wp2_with fail; go_ret; exact ⟨by rw [HG.out, I0.out]; rfl, OU.out⟩)
        · clear HM I2 I3
          go_wp2_with fail
          go_ret
          exact ⟨by rw [HG.out]; rfl, OU.out⟩
        · clear HM I0 I3
          cases y <;> cases z <;> (go_wp2_with fail; go_ret; exact ⟨by rw [HG.out, I2.out]; rfl, OU.out⟩)
        · clear HM I0 I2
          cases y <;> cases t <;> (go_wp2_with fail; go_ret; exact ⟨by rw [HG.out, I3.out]; rfl, OU.out⟩)
theorem rmay_any (i : Ins) (len : Int) (w : World) : Calls Tryz.prog 98 #[.agg (insV i), .int .i64 len] w fun e w' => e = .returned (.bool (mayI i len)) ∧ Only [] w w' := by
  by_cases ho : i.op < 0 ∨ 8 < i.op
  · have hm : mayI i len = false := by
      unfold mayI opOk
      rcases ho with h | h
      · rw [decide_eq_false (show ¬ 0 ≤ i.op by omega)]; rfl
      · rw [decide_eq_false (show ¬ i.op ≤ 8 by omega)]; simp
    rw [hm]
    refine (rmay_gen i len false false false false 0 (.inl rfl) (fun W => named_bad i.op ho W) w).mono fun e w' ⟨h, o⟩ => ⟨?_, o⟩
    rw [h]; simp
  · obtain ⟨k, hk⟩ : ∃ k : Nat, i.op = k := ⟨i.op.toNat, by omega⟩
    have hk9 : k < 9 := by omega
    have hm : mayI i len = ((regOk (shp k).d i.d && (regOk (shp k).a i.a && regOk (shp k).b i.b)) && (true && immOk (shp k).imm i.imm len)) := by
      unfold mayI opOk
      rw [hk, Int.toNat_natCast, decide_eq_true (show (0 : Int) ≤ k by omega), decide_eq_true (show (k : Int) ≤ 8 by omega)]
      rfl
    rw [hm]
    have him : (shp k).imm = 0 ∨ (shp k).imm = 1 ∨ (shp k).imm = 2 ∨ (shp k).imm = 3 := by
      rcases (by omega : k = 0 ∨ k = 1 ∨ k = 2 ∨ k = 3 ∨ k = 4 ∨ k = 5 ∨ k = 6 ∨ k = 7 ∨ k = 8) with h | h | h | h | h | h | h | h | h
      all_goals (subst h; decide)
    exact rmay_gen i len _ _ _ true _ him (fun W => by rw [hk]; exact named_ok k hk9 W) w
end Go.Proofs.YteblhklclcjonaaGreatDoor
