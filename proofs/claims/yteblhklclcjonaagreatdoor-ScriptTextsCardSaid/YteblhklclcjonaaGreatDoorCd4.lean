/- Code: the walk of May. No condition. -/
import Derived.Test.YteblhklclcjonaaGreatDoorCd3
namespace Go.Proofs.YteblhklclcjonaaGreatDoor
open Go.RowKit
set_option linter.unusedVariables false
set_option linter.all false
set_option maxRecDepth 20000

/-- An instruction, as the program keeps it. -/
def insV (i : Ins) : Array Value := #[.int .i64 i.op, .int .i64 i.d, .int .i64 i.a, .int .i64 i.b, .int .i64 i.imm]
set_option maxHeartbeats 4000000 in
theorem regs_any (i : Ins) (k : Nat) (w : World) : Calls Tryz.prog 118 #[.agg (insV i), .agg (opV k)] w fun e w' => e = .returned (.bool (regOk (shp k).d i.d && (regOk (shp k).a i.a && regOk (shp k).b i.b))) ∧ Only [] w w' := by
  unfold insV opV
  obtain ⟨s, hs⟩ : ∃ s, ByteArray.mk (nmB k).toArray = s := ⟨_, rfl⟩
  obtain ⟨d, hd⟩ : ∃ d, (shp k).d = d := ⟨_, rfl⟩
  obtain ⟨a, ha⟩ : ∃ d, (shp k).a = d := ⟨_, rfl⟩
  obtain ⟨b, hb⟩ : ∃ d, (shp k).b = d := ⟨_, rfl⟩
  obtain ⟨m, hm⟩ : ∃ m : Int, ((shp k).imm : Int) = m := ⟨_, rfl⟩
  rw [hs, hd, ha, hb, hm]
  obtain ⟨x, hx⟩ : ∃ x, regOk d i.d = x := ⟨_, rfl⟩
  obtain ⟨y, hy⟩ : ∃ x, regOk a i.a = x := ⟨_, rfl⟩
  obtain ⟨z, hz⟩ : ∃ x, regOk b i.b = x := ⟨_, rfl⟩
  have A1 := hide (fun W => reg_any d i.d W)
  have A2 := hide (fun W => reg_any a i.a W)
  have A3 := hide (fun W => reg_any b i.b W)
  simp only [hx, hy, hz] at A1 A2 A3
  rw [hx, hy, hz]
  have o2 := ((Only.refl [] w).alloc (.cells #[.int .i64 i.op, .int .i64 i.d, .int .i64 i.a, .int .i64 i.b, .int .i64 i.imm] 99)).alloc (.cells #[.string s, .bool d, .bool a, .bool b, .int .i64 m] 152)
  have b1 := (Blk.new w 99 #[.int .i64 i.op, .int .i64 i.d, .int .i64 i.a, .int .i64 i.b, .int .i64 i.imm]).alloc (.cells #[.string s, .bool d, .bool a, .bool b, .int .i64 m] 152)
  have b2 := Blk.new (w.alloc (.cells #[.int .i64 i.op, .int .i64 i.d, .int .i64 i.a, .int .i64 i.b, .int .i64 i.imm] 99)) 152 #[.string s, .bool d, .bool a, .bool b, .int .i64 m]
  rw [World.size_alloc] at b2
  have x1 := b1.cell 1
  have x2 := b1.cell 2
  have x3 := b1.cell 3
  have y1 := b2.cell 1
  have y2 := b2.cell 2
  have y3 := b2.cell 3
  clear hs hd ha hb hm hx hy hz b1 b2
  cases x <;> cases y
  all_goals (
    go_enter Tryz.func118, Tryz.ntmps118
    go_wp2_with (first
      | (go_at_call 132; (with_reducible refine (A1.out _).mono ?_); rintro e w' ⟨rfl, hw⟩; obtain rfl := hw.symm; clear hw)
      | (go_at_call 132; (with_reducible refine (A2.out _).mono ?_); rintro e w' ⟨rfl, hw⟩; obtain rfl := hw.symm; clear hw)
      | (go_at_call 132; (with_reducible refine (A3.out _).mono ?_); rintro e w' ⟨rfl, hw⟩; obtain rfl := hw.symm; clear hw))
    go_ret
    exact ⟨by simp, o2⟩)
set_option maxHeartbeats 4000000 in
theorem may_any (i : Ins) (len : Int) (w : World) : Calls Tryz.prog 92 #[.agg (insV i), .int .i64 len] w fun e w' => e = .returned (.bool (mayI i len)) ∧ Only [] w w' := by
  have b1 := Blk.new w 99 (insV i)
  unfold insV at b1
  have x0 := b1.cell 0
  have x4 := b1.cell 4
  have o1 := (Only.refl [] w).alloc (.cells (insV i) 99)
  have RG := hide (fun k W => regs_any i k W)
  by_cases ho : i.op < 0 ∨ 8 < i.op
  · have OF := hide (fun W => of_bad i.op ho W)
    have hm : mayI i len = false := by
      unfold mayI opOk
      rcases ho with h | h
      · rw [decide_eq_false (show ¬ 0 ≤ i.op by omega)]; rfl
      · rw [decide_eq_false (show ¬ i.op ≤ 8 by omega)]; simp
    rw [hm]
    unfold insV at o1 ⊢
    clear ho hm
    go_enter Tryz.func92, Tryz.ntmps92
    go_wp2_with (go_at_call 96; (with_reducible refine (OF.out _).mono ?_); rintro e w1 ⟨rfl, o2⟩)
    go_ret
    exact ⟨rfl, (o1.trans0 o2).alloc _⟩
  · obtain ⟨k, hk⟩ : ∃ k : Nat, i.op = k := ⟨i.op.toNat, by omega⟩
    have hk9 : k < 9 := by omega
    have OF := fun W => of_ok k hk9 W
    have hm : mayI i len = ((regOk (shp k).d i.d && (regOk (shp k).a i.a && regOk (shp k).b i.b)) && immOk (shp k).imm i.imm len) := by
      unfold mayI opOk
      rw [hk, Int.toNat_natCast, decide_eq_true (show (0 : Int) ≤ k by omega), decide_eq_true (show (k : Int) ≤ 8 by omega)]
      rfl
    rw [hm]
    have hR := RG.out k
    obtain ⟨r, hr⟩ : ∃ r, (regOk (shp k).d i.d && (regOk (shp k).a i.a && regOk (shp k).b i.b)) = r := ⟨_, rfl⟩
    rw [hr]
    rw [hr] at hR
    have him : (shp k).imm = 0 ∨ (shp k).imm = 1 ∨ (shp k).imm = 2 ∨ (shp k).imm = 3 := by
      rcases (by omega : k = 0 ∨ k = 1 ∨ k = 2 ∨ k = 3 ∨ k = 4 ∨ k = 5 ∨ k = 6 ∨ k = 7 ∨ k = 8) with h | h | h | h | h | h | h | h | h
      all_goals (subst h; decide)
    unfold opV at OF hR
    obtain ⟨s, hs⟩ : ∃ s, ByteArray.mk (nmB k).toArray = s := ⟨_, rfl⟩
    obtain ⟨d, hd⟩ : ∃ d, (shp k).d = d := ⟨_, rfl⟩
    obtain ⟨a, ha⟩ : ∃ d, (shp k).a = d := ⟨_, rfl⟩
    obtain ⟨b, hb⟩ : ∃ d, (shp k).b = d := ⟨_, rfl⟩
    obtain ⟨m, hm⟩ : ∃ m, (shp k).imm = m := ⟨_, rfl⟩
    rw [hm] at him ⊢
    rw [hs, hd, ha, hb, hm] at OF hR
    rw [hk] at x0 b1
    unfold insV at o1 hR ⊢
    rw [hk] at o1 hR ⊢
    have OF := hide OF
    have HR := hide hR
    clear RG hr hs hd ha hb hm ho hR hk hk9
    cases r with
    | false =>
      go_enter Tryz.func92, Tryz.ntmps92
      go_wp2_with (first
        | (go_at_call 96; (with_reducible refine (OF.out _).mono ?_); rintro e w1 ⟨rfl, o2⟩; have O3 := hide ((o1.trans0 o2).alloc (.cells #[.string s, .bool d, .bool a, .bool b, .int .i64 m] 152)); have q1 := (b1.only o2 (by simp)).alloc (.cells #[.string s, .bool d, .bool a, .bool b, .int .i64 m] 152); have q2 := Blk.new w1 152 #[.string s, .bool d, .bool a, .bool b, .int .i64 m]; have u0 := q1.cell 0; have u1 := q1.cell 1; have u2 := q1.cell 2; have u3 := q1.cell 3; have u4 := q1.cell 4; have v0 := q2.cell 0; have v1 := q2.cell 1; have v2 := q2.cell 2; have v3 := q2.cell 3; have v4 := q2.cell 4; clear q1 q2 o2)
        | (go_at_call 118; (with_reducible refine (HR.out _).mono ?_); rintro e w2 ⟨rfl, o4⟩; have O4 := hide (O3.out.trans0 o4); clear o4))
      go_ret
      exact ⟨rfl, O4.out⟩
    | true =>
      rcases him with hm0 | hm0 | hm0 | hm0
      · have d1 : ((m : Int) == 1) = false := by rw [hm0]; rfl
        have d2 : ((m : Int) == 2) = false := by rw [hm0]; rfl
        have d3 : ((m : Int) == 3) = false := by rw [hm0]; rfl
        have HM := hide hm0
        clear hm0
        go_enter Tryz.func92, Tryz.ntmps92
        go_wp2_with (first
          | (go_at_call 96; (with_reducible refine (OF.out _).mono ?_); rintro e w1 ⟨rfl, o2⟩; have O3 := hide ((o1.trans0 o2).alloc (.cells #[.string s, .bool d, .bool a, .bool b, .int .i64 m] 152)); have q1 := (b1.only o2 (by simp)).alloc (.cells #[.string s, .bool d, .bool a, .bool b, .int .i64 m] 152); have q2 := Blk.new w1 152 #[.string s, .bool d, .bool a, .bool b, .int .i64 m]; have u0 := q1.cell 0; have u1 := q1.cell 1; have u2 := q1.cell 2; have u3 := q1.cell 3; have u4 := q1.cell 4; have v0 := q2.cell 0; have v1 := q2.cell 1; have v2 := q2.cell 2; have v3 := q2.cell 3; have v4 := q2.cell 4; have Q1 := hide q1; have Q2 := hide q2; clear q1 q2 o2)
          | (go_at_call 118; (with_reducible refine (HR.out _).mono ?_); rintro e w2 ⟨rfl, o4⟩; have O4 := hide (O3.out.trans0 o4); have t4 := (Q1.out.only o4 (by simp)).cell 4; have s4 := (Q2.out.only o4 (by simp)).cell 4; clear o4 u0 u1 u2 u3 u4 v0 v1 v2 v3 v4 Q1 Q2))
        all_goals go_ret
        all_goals (rw [HM.out]; refine ⟨?_, O4.out⟩; first | rfl | (simp [immOk, *]; done) | (simp [immOk, *]; omega) | (simp [immOk]; rfl))
      · have d1 : ((m : Int) == 1) = true := by rw [hm0]; rfl
        have d2 : ((m : Int) == 2) = false := by rw [hm0]; rfl
        have d3 : ((m : Int) == 3) = false := by rw [hm0]; rfl
        have HM := hide hm0
        clear hm0
        go_enter Tryz.func92, Tryz.ntmps92
        go_wp2_with (first
          | (go_at_call 96; (with_reducible refine (OF.out _).mono ?_); rintro e w1 ⟨rfl, o2⟩; have O3 := hide ((o1.trans0 o2).alloc (.cells #[.string s, .bool d, .bool a, .bool b, .int .i64 m] 152)); have q1 := (b1.only o2 (by simp)).alloc (.cells #[.string s, .bool d, .bool a, .bool b, .int .i64 m] 152); have q2 := Blk.new w1 152 #[.string s, .bool d, .bool a, .bool b, .int .i64 m]; have u0 := q1.cell 0; have u1 := q1.cell 1; have u2 := q1.cell 2; have u3 := q1.cell 3; have u4 := q1.cell 4; have v0 := q2.cell 0; have v1 := q2.cell 1; have v2 := q2.cell 2; have v3 := q2.cell 3; have v4 := q2.cell 4; have Q1 := hide q1; have Q2 := hide q2; clear q1 q2 o2)
          | (go_at_call 118; (with_reducible refine (HR.out _).mono ?_); rintro e w2 ⟨rfl, o4⟩; have O4 := hide (O3.out.trans0 o4); have t4 := (Q1.out.only o4 (by simp)).cell 4; have s4 := (Q2.out.only o4 (by simp)).cell 4; clear o4 u0 u1 u2 u3 u4 v0 v1 v2 v3 v4 Q1 Q2))
        all_goals go_ret
        all_goals (rw [HM.out]; refine ⟨?_, O4.out⟩; first | rfl | (simp [immOk, *]; done) | (simp [immOk, *]; omega) | (simp [immOk]; rfl))
      · have d1 : ((m : Int) == 1) = false := by rw [hm0]; rfl
        have d2 : ((m : Int) == 2) = true := by rw [hm0]; rfl
        have d3 : ((m : Int) == 3) = false := by rw [hm0]; rfl
        have HM := hide hm0
        clear hm0
        go_enter Tryz.func92, Tryz.ntmps92
        go_wp2_with (first
          | (go_at_call 96; (with_reducible refine (OF.out _).mono ?_); rintro e w1 ⟨rfl, o2⟩; have O3 := hide ((o1.trans0 o2).alloc (.cells #[.string s, .bool d, .bool a, .bool b, .int .i64 m] 152)); have q1 := (b1.only o2 (by simp)).alloc (.cells #[.string s, .bool d, .bool a, .bool b, .int .i64 m] 152); have q2 := Blk.new w1 152 #[.string s, .bool d, .bool a, .bool b, .int .i64 m]; have u0 := q1.cell 0; have u1 := q1.cell 1; have u2 := q1.cell 2; have u3 := q1.cell 3; have u4 := q1.cell 4; have v0 := q2.cell 0; have v1 := q2.cell 1; have v2 := q2.cell 2; have v3 := q2.cell 3; have v4 := q2.cell 4; have Q1 := hide q1; have Q2 := hide q2; clear q1 q2 o2)
          | (go_at_call 118; (with_reducible refine (HR.out _).mono ?_); rintro e w2 ⟨rfl, o4⟩; have O4 := hide (O3.out.trans0 o4); have t4 := (Q1.out.only o4 (by simp)).cell 4; have s4 := (Q2.out.only o4 (by simp)).cell 4; clear o4 u0 u1 u2 u3 u4 v0 v1 v2 v3 v4 Q1 Q2))
        all_goals go_ret
        all_goals (rw [HM.out]; refine ⟨?_, O4.out⟩; first | rfl | (simp [immOk, *]; done) | (simp [immOk, *]; omega) | (simp [immOk]; rfl))
      · have d1 : ((m : Int) == 1) = false := by rw [hm0]; rfl
        have d2 : ((m : Int) == 2) = false := by rw [hm0]; rfl
        have d3 : ((m : Int) == 3) = true := by rw [hm0]; rfl
        have HM := hide hm0
        clear hm0
        go_enter Tryz.func92, Tryz.ntmps92
        go_wp2_with (first
          | (go_at_call 96; (with_reducible refine (OF.out _).mono ?_); rintro e w1 ⟨rfl, o2⟩; have O3 := hide ((o1.trans0 o2).alloc (.cells #[.string s, .bool d, .bool a, .bool b, .int .i64 m] 152)); have q1 := (b1.only o2 (by simp)).alloc (.cells #[.string s, .bool d, .bool a, .bool b, .int .i64 m] 152); have q2 := Blk.new w1 152 #[.string s, .bool d, .bool a, .bool b, .int .i64 m]; have u0 := q1.cell 0; have u1 := q1.cell 1; have u2 := q1.cell 2; have u3 := q1.cell 3; have u4 := q1.cell 4; have v0 := q2.cell 0; have v1 := q2.cell 1; have v2 := q2.cell 2; have v3 := q2.cell 3; have v4 := q2.cell 4; have Q1 := hide q1; have Q2 := hide q2; clear q1 q2 o2)
          | (go_at_call 118; (with_reducible refine (HR.out _).mono ?_); rintro e w2 ⟨rfl, o4⟩; have O4 := hide (O3.out.trans0 o4); have t4 := (Q1.out.only o4 (by simp)).cell 4; have s4 := (Q2.out.only o4 (by simp)).cell 4; clear o4 u0 u1 u2 u3 u4 v0 v1 v2 v3 v4 Q1 Q2))
        all_goals go_ret
        all_goals (rw [HM.out]; refine ⟨?_, O4.out⟩; first | rfl | (simp [immOk, *]; done) | (simp [immOk, *]; omega) | (simp [immOk]; rfl))
end Go.Proofs.YteblhklclcjonaaGreatDoor
