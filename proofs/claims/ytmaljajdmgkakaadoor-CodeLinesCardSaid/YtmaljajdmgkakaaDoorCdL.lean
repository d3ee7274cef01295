/- Code: the walk of CodeLines. Condition: Env. -/
import Derived.Test.YtmaljajdmgkakaaDoorCdO
import Derived.Test.YtmaljajdmgkakaaDoorCdF
import Derived.BigRegion
import Derived.Deep.RegionHeld3
namespace Go.Proofs.YtmaljajdmgkakaaDoor
open Go.RowKit
set_option linter.unusedVariables false
set_option linter.all false
set_option maxRecDepth 20000

theorem parV_five (r : Option Ins) : ∃ o d a b m er, parV r = .tuple #[.agg #[.int .i64 o, .int .i64 d, .int .i64 a, .int .i64 b, .int .i64 m], .int .i64 er] := by
  cases r with
  | none => exact ⟨0, 0, 0, 0, 0, 4, rfl⟩
  | some i => exact ⟨i.op, i.d, i.a, i.b, i.imm, 0, rfl⟩
set_option maxHeartbeats 16000000 in
theorem lines_walk (i : Ins) (ho : ∀ x ∈ [i.op, i.d, i.a, i.b, i.imm], -9223372036854775808 ≤ x ∧ x ≤ 9223372036854775807) (len : Int) (t : ByteArray) (w : World) (he : Env w) (hw4 : 4 ≤ w.heap.size) :
    Calls Tryd.prog 3 #[.agg (insV i), .int .i64 len, .string t] w fun e w' => e = .returned (.bool true) ∧ Only [] w w' := by
  have him := ho i.imm (by simp)
  have KN := hide (fun W (o : Only [] w W) => known_any W (he.only o) (by have := o.size; omega))
  have b1 := Blk.new w 24 (insV i)
  have o1 := (Only.refl [] w).alloc (.cells (insV i) 24)
  unfold insV at b1 o1
  unfold insV
  have B1 := hide b1
  have O1 := hide o1
  have x0 := b1.cell 0
  have x1 := b1.cell 1
  have x2 := b1.cell 2
  have x3 := b1.cell 3
  have x4 := b1.cell 4
  clear b1 o1 ho
  by_cases hs : 9000 < t.size
  · have e0 : decide ((9000 : Int) < (t.size : Int)) = true := decide_eq_true (by omega)
    have e1 : decide (9000 < t.size) = true := decide_eq_true (by omega)
    clear hs
    go_enter Tryd.func3, Tryd.ntmps3
    go_wp2_with (go_at_call 6; (with_reducible refine (KN.out _ O1.out).mono ?_); rintro e w1 ⟨rfl, o⟩; have O2 := hide (O1.out.trans0 o); clear o)
    go_ret
    exact ⟨rfl, O2.out⟩
  have e0 : decide ((9000 : Int) < (t.size : Int)) = false := decide_eq_false (by omega)
  have e1 : decide (9000 < t.size) = false := decide_eq_false (by omega)
  obtain ⟨s, hst⟩ : ∃ s, t = bs s := ⟨t.data.toList, (bs_of t).symm⟩
  have hsl : s.length ≤ 100000 := by have := bs_size s; rw [← hst] at this; omega
  obtain ⟨o, d, a, b, m, er, hv⟩ := parV_five (refP s)
  have P8 := fun W (o : Only [] w W) => parse_walk s hsl W (he.only o) (by have := o.size; omega)
  have P9 := fun W (o : Only [] w W) => rparse_any s hsl W (he.only o) (by have := o.size; omega)
  rw [parP_eq] at P8
  rw [hv, ← hst] at P8 P9
  have P8 := hide P8
  have P9 := hide P9
  have MY0 := fun W => may_any i len W
  have RM0 := fun W => rmay_any i len W
  have RM1 := fun W => rmay_any i 256 W
  have LN := fun W (o : Only [] w W) => line_any i W (he.only o) him.1 him.2
  have P2 := fun (h : mayI i 256 = true) W (o : Only [] w W) => parse_walk (lineB i) (by have := lineB_len i; omega) W (he.only o) (by have := o.size; omega)
  have RL := fun (h : mayI i 256 = true) W (o : Only [] w W) => rline_any i W (he.only o) h him.1 him.2
  unfold insV at MY0 RM0 RM1 LN RL
  obtain ⟨bl, hbl⟩ : ∃ x, mayI i len = x := ⟨_, rfl⟩
  rw [hbl] at MY0 RM0
  clear hst hsl hv hs hbl he
  cases hmay : mayI i 256 with
  | true =>
    have P2 := P2 hmay
    have RL := RL hmay
    rw [parP_back hmay him.1 him.2] at P2
    unfold parV insV at P2
    simp only at P2
    rw [hmay] at LN RM1
    simp only [if_true] at LN
    obtain ⟨tb, htb⟩ : ∃ x, bs (lineB i) = x := ⟨_, rfl⟩
    rw [htb] at P2 RL LN
    have P2 := hide P2
    have RL := hide RL
    have RM1 := hide RM1
    have LN := hide LN
    have MY := hide MY0
    have RM := hide RM0
    clear hmay htb him hw4 MY0 RM0
    go_enter Tryd.func3, Tryd.ntmps3
    go_wp2_with (first
      | (go_at_call 7; (with_reducible refine (LN.out _ O1.out).mono ?_); rintro e w7 ⟨rfl, o'⟩; have B7 := hide (B1.out.only o' (by simp)); have O7 := hide (O1.out.trans0 o'); clear o' x0 x1 x2 x3 x4 B1 O1 LN)
      | (go_at_call 8; (with_reducible refine (P8.out _ O7.out).mono ?_); rintro e w8 ⟨rfl, o'⟩; have BX8 := hide ((B7.out.only o' (by simp)).alloc (.cells #[.int .i64 o, .int .i64 d, .int .i64 a, .int .i64 b, .int .i64 m] 24)); have BY8 := hide (Blk.new w8 24 #[.int .i64 o, .int .i64 d, .int .i64 a, .int .i64 b, .int .i64 m]); have O8 := hide ((O7.out.trans0 o').alloc (.cells #[.int .i64 o, .int .i64 d, .int .i64 a, .int .i64 b, .int .i64 m] 24)); clear o' B7 O7 P8)
      | (go_at_call 9; (with_reducible refine (P9.out _ O8.out).mono ?_); rintro e w9 ⟨rfl, o'⟩; have BX9 := hide ((BX8.out.only o' (by simp)).alloc (.cells #[.int .i64 o, .int .i64 d, .int .i64 a, .int .i64 b, .int .i64 m] 24)); have BY9 := hide ((BY8.out.only o' (by simp)).alloc (.cells #[.int .i64 o, .int .i64 d, .int .i64 a, .int .i64 b, .int .i64 m] 24)); have BZ9 := hide (Blk.new w9 24 #[.int .i64 o, .int .i64 d, .int .i64 a, .int .i64 b, .int .i64 m]); have O9 := hide ((O8.out.trans0 o').alloc (.cells #[.int .i64 o, .int .i64 d, .int .i64 a, .int .i64 b, .int .i64 m] 24)); clear o' BX8 BY8 O8 P9))
    obtain ⟨V, hV⟩ : ∃ V, w9.alloc (.cells #[.int .i64 o, .int .i64 d, .int .i64 a, .int .i64 b, .int .i64 m] 24) = V := ⟨_, rfl⟩
    obtain ⟨X, hX⟩ : ∃ X, w.heap.size = X := ⟨_, rfl⟩
    obtain ⟨Y, hY⟩ : ∃ Y, w8.heap.size = Y := ⟨_, rfl⟩
    obtain ⟨Z, hZ⟩ : ∃ Z, w9.heap.size = Z := ⟨_, rfl⟩
    rw [hV, hX] at BX9
    rw [hV, hY] at BY9
    rw [hV, hZ] at BZ9
    rw [hV] at O9
    simp only [hV, hX, hY, hZ]
    have KX := hide (fun U1 (oo : Only [] V U1) => show U1.cell? ⟨X, 0, none⟩ = some (.int .i64 i.op) ∧ U1.cell? ⟨X, 1, none⟩ = some (.int .i64 i.d) ∧ U1.cell? ⟨X, 2, none⟩ = some (.int .i64 i.a) ∧ U1.cell? ⟨X, 3, none⟩ = some (.int .i64 i.b) ∧ U1.cell? ⟨X, 4, none⟩ = some (.int .i64 i.imm) from by have := BX9.out.only oo (by simp); exact ⟨this.cell 0, this.cell 1, this.cell 2, this.cell 3, this.cell 4⟩)
    have KY := hide (fun U1 (oo : Only [] V U1) => show U1.cell? ⟨Y, 0, none⟩ = some (.int .i64 o) ∧ U1.cell? ⟨Y, 1, none⟩ = some (.int .i64 d) ∧ U1.cell? ⟨Y, 2, none⟩ = some (.int .i64 a) ∧ U1.cell? ⟨Y, 3, none⟩ = some (.int .i64 b) ∧ U1.cell? ⟨Y, 4, none⟩ = some (.int .i64 m) from by have := BY9.out.only oo (by simp); exact ⟨this.cell 0, this.cell 1, this.cell 2, this.cell 3, this.cell 4⟩)
    have KZ := hide (fun U1 (oo : Only [] V U1) => show U1.cell? ⟨Z, 0, none⟩ = some (.int .i64 o) ∧ U1.cell? ⟨Z, 1, none⟩ = some (.int .i64 d) ∧ U1.cell? ⟨Z, 2, none⟩ = some (.int .i64 a) ∧ U1.cell? ⟨Z, 3, none⟩ = some (.int .i64 b) ∧ U1.cell? ⟨Z, 4, none⟩ = some (.int .i64 m) from by have := BZ9.out.only oo (by simp); exact ⟨this.cell 0, this.cell 1, this.cell 2, this.cell 3, this.cell 4⟩)
    have MY := hide (fun U1 (o : True) => MY.out U1)
    have RM := hide (fun U1 (o : True) => RM.out U1)
    clear hV hX hY hZ
    refine wp_region_held_drew (S := (fun U1 => Only [] V U1)) (by kernel_rfl) ((Only.refl _ V).drew) (fun hHeld => ?_)
    revert hHeld
    generalize V.drew = u0
    intro hHeld
    refine wpAnyH_take (i := 0) (oi := ⟨some 34, _, _, _, _, _⟩) (v := ?vl1) rfl (by kernel_rfl) (by kernel_rfl) (by kernel_rfl) (fun _ _ _ h => h) (Or.inl ⟨by rfl, ?hyl1⟩) (by assumption) ?restl1
    case hyl1 => (intro V hSw; (try dsimp only at hSw); obtain ⟨y0, y1, y2, y3, y4⟩ := KY.out V hSw; go_simp; first | done | (with_reducible rfl))
    try simp only [Act.put, List.setIfInBounds_toArray, List.set_cons_zero, List.set_cons_succ]
    refine wpAnyH_take (i := 1) (oi := ⟨some 35, _, _, _, _, _⟩) (v := ?vl2) rfl (by kernel_rfl) (by kernel_rfl) (by kernel_rfl) (fun _ _ _ h => h) (Or.inl ⟨by rfl, ?hyl2⟩) (by assumption) ?restl2
    case hyl2 => (intro V hSw; (try dsimp only at hSw); obtain ⟨z0, z1, z2, z3, z4⟩ := KZ.out V hSw; go_simp; first | done | (with_reducible rfl))
    try simp only [Act.put, List.setIfInBounds_toArray, List.set_cons_zero, List.set_cons_succ]
    refine wpAnyH_take (i := 2) (oi := ⟨some 36, _, _, _, _, _⟩) (v := ?vl3) rfl (by kernel_rfl) (by kernel_rfl) (by kernel_rfl) (fun _ _ _ h => h) (Or.inl ⟨by rfl, ?hyl3⟩) (by assumption) ?restl3
    case hyl3 => (intro V hSw; (try dsimp only at hSw); go_simp; first | done | (with_reducible rfl))
    try simp only [Act.put, List.setIfInBounds_toArray, List.set_cons_zero, List.set_cons_succ]
    refine wpAnyH_take (i := 3) (oi := ⟨some 37, _, _, _, _, _⟩) (v := ?vl4) rfl (by kernel_rfl) (by kernel_rfl) (by kernel_rfl) (fun _ _ _ h => h) (Or.inl ⟨by rfl, ?hyl4⟩) (by assumption) ?restl4
    case hyl4 => (intro V hSw; (try dsimp only at hSw); go_simp; first | done | (with_reducible rfl))
    try simp only [Act.put, List.setIfInBounds_toArray, List.set_cons_zero, List.set_cons_succ]
    refine wpAnyH_take (i := 4) (oi := ⟨some 38, _, _, _, _, _⟩) (v := ?vl5) rfl (by kernel_rfl) (by kernel_rfl) (by kernel_rfl) (fun _ _ _ h => h) (Or.inl ⟨by rfl, ?hyl5⟩) (by assumption) ?restl5
    case hyl5 => (intro V hSw; (try dsimp only at hSw); go_simp; first | done | (with_reducible rfl))
    try simp only [Act.put, List.setIfInBounds_toArray, List.set_cons_zero, List.set_cons_succ]
    refine wpAnyH_take (i := 6) (oi := ⟨some 40, _, _, _, _, _⟩) (v := ?vl6) rfl (by kernel_rfl) (by kernel_rfl) (by kernel_rfl) (fun _ _ _ h => h) (Or.inl ⟨by rfl, ?hyl6⟩) (by assumption) ?restl6
    case hyl6 => (intro V hSw; (try dsimp only at hSw); go_simp; first | done | (with_reducible rfl))
    try simp only [Act.put, List.setIfInBounds_toArray, List.set_cons_zero, List.set_cons_succ]
    refine wpAnyH_ready (rs := [5]) (by kernel_rfl) (by simp) ?_
    refine AllReadyH.cons (o := ⟨some 39, _, _, _, _, _⟩) rfl (fun K hK => ?_) (AllReadyH.nil)
    rw [if_pos (by rfl)]
    go_simp
    (with_reducible refine (num_any _ _).mono ?_); rintro e u5 ⟨rfl, hu⟩; have OS := hide (show Only [] V u5 from by rw [hu]; exact (show Only [] V u0 from hHeld)); clear hu
    try dsimp only
    refine hK.out _ _ (OS.out) (fun hHeld => ?_)
    clear hK K
    try simp only [Act.put, List.setIfInBounds_toArray, List.set_cons_zero, List.set_cons_succ]
    refine wpAnyH_take (i := 7) (oi := ⟨some 41, _, _, _, _, _⟩) (v := ?vl7) rfl (by kernel_rfl) (by kernel_rfl) (by kernel_rfl) (fun _ _ _ h => h) (Or.inl ⟨by rfl, ?hyl7⟩) (by assumption) ?restl7
    case hyl7 => (intro V hSw; (try dsimp only at hSw); go_simp; first | done | (with_reducible rfl))
    try simp only [Act.put, List.setIfInBounds_toArray, List.set_cons_zero, List.set_cons_succ]
    refine wpAnyH_take (i := 8) (oi := ⟨some 42, _, _, _, _, _⟩) (v := ?vl8) rfl (by kernel_rfl) (by kernel_rfl) (by kernel_rfl) (fun _ _ _ h => h) (Or.inl ⟨by rfl, ?hyl8⟩) (by assumption) ?restl8
    case hyl8 => (intro V hSw; (try dsimp only at hSw); go_simp; first | done | (with_reducible rfl))
    try simp only [Act.put, List.setIfInBounds_toArray, List.set_cons_zero, List.set_cons_succ]
    refine wpAnyH_take (i := 9) (oi := ⟨some 43, _, _, _, _, _⟩) (v := ?vl9) rfl (by kernel_rfl) (by kernel_rfl) (by kernel_rfl) (fun _ _ _ h => h) (Or.inl ⟨by rfl, ?hyl9⟩) (by assumption) ?restl9
    case hyl9 => (intro V hSw; (try dsimp only at hSw); go_simp; first | done | (with_reducible rfl))
    try simp only [Act.put, List.setIfInBounds_toArray, List.set_cons_zero, List.set_cons_succ]
    refine wpAnyH_take (i := 10) (oi := ⟨some 44, _, _, _, _, _⟩) (v := ?vl10) rfl (by kernel_rfl) (by kernel_rfl) (by kernel_rfl) (fun _ _ _ h => h) (Or.inl ⟨by rfl, ?hyl10⟩) (by assumption) ?restl10
    case hyl10 => (intro V hSw; (try dsimp only at hSw); obtain ⟨x0, x1, x2, x3, x4⟩ := KX.out V hSw; go_simp; first | done | (with_reducible rfl))
    try simp only [Act.put, List.setIfInBounds_toArray, List.set_cons_zero, List.set_cons_succ]
    refine wpAnyH_take (i := 11) (oi := ⟨some 45, _, _, _, _, _⟩) (v := ?vl11) rfl (by kernel_rfl) (by kernel_rfl) (by kernel_rfl) (fun _ _ _ h => h) (Or.inl ⟨by rfl, ?hyl11⟩) (by assumption) ?restl11
    case hyl11 => (intro V hSw; (try dsimp only at hSw); go_simp; first | done | (with_reducible rfl))
    try simp only [Act.put, List.setIfInBounds_toArray, List.set_cons_zero, List.set_cons_succ]
    refine wpAnyH_take (i := 13) (oi := ⟨some 47, _, _, _, _, _⟩) (v := ?vl12) rfl (by kernel_rfl) (by kernel_rfl) (by kernel_rfl) (fun _ _ _ h => h) (Or.inl ⟨by rfl, ?hyl12⟩) (by assumption) ?restl12
    case hyl12 => (intro V hSw; (try dsimp only at hSw); obtain ⟨x0, x1, x2, x3, x4⟩ := KX.out V hSw; go_simp; first | done | (with_reducible rfl))
    try simp only [Act.put, List.setIfInBounds_toArray, List.set_cons_zero, List.set_cons_succ]
    refine wpAnyH_take (i := 14) (oi := ⟨some 48, _, _, _, _, _⟩) (v := ?vl13) rfl (by kernel_rfl) (by kernel_rfl) (by kernel_rfl) (fun _ _ _ h => h) (Or.inl ⟨by rfl, ?hyl13⟩) (by assumption) ?restl13
    case hyl13 => (intro V hSw; (try dsimp only at hSw); go_simp; first | done | (with_reducible rfl))
    try simp only [Act.put, List.setIfInBounds_toArray, List.set_cons_zero, List.set_cons_succ]
    refine wpAnyH_ready (rs := [12]) (by kernel_rfl) (by simp) ?_
    refine AllReadyH.cons (o := ⟨some 46, _, _, _, _, _⟩) rfl (fun K hK => ?_) (AllReadyH.nil)
    rw [if_pos (by rfl)]
    go_simp
    (with_reducible refine (MY.out _ trivial).mono ?_); rintro e u6 ⟨rfl, o'⟩; have OS := hide (show Only [] V u6 from (show Only [] V u5 from hHeld).trans0 o'); clear o'
    try dsimp only
    refine hK.out _ _ (OS.out) (fun hHeld => ?_)
    clear hK K
    try simp only [Act.put, List.setIfInBounds_toArray, List.set_cons_zero, List.set_cons_succ]
    refine wpAnyH_ready (rs := [15]) (by kernel_rfl) (by simp) ?_
    refine AllReadyH.cons (o := ⟨some 49, _, _, _, _, _⟩) rfl (fun K hK => ?_) (AllReadyH.nil)
    rw [if_pos (by rfl)]
    go_simp
    (with_reducible refine (RM.out _ trivial).mono ?_); rintro e u7 ⟨rfl, o'⟩; have OS := hide (show Only [] V u7 from (show Only [] V u6 from hHeld).trans0 o'); clear o'
    try dsimp only
    refine hK.out _ _ (OS.out) (fun hHeld => ?_)
    clear hK K
    try simp only [Act.put, List.setIfInBounds_toArray, List.set_cons_zero, List.set_cons_succ]
    refine wpAnyH_take (i := 16) (oi := ⟨some 50, _, _, _, _, _⟩) (v := ?vl14) rfl (by kernel_rfl) (by kernel_rfl) (by kernel_rfl) (fun _ _ _ h => h) (Or.inl ⟨by rfl, ?hyl14⟩) (by assumption) ?restl14
    case hyl14 => (intro V hSw; (try dsimp only at hSw); go_simp; first | done | (with_reducible rfl))
    try simp only [Act.put, List.setIfInBounds_toArray, List.set_cons_zero, List.set_cons_succ]
    refine wpAnyH_take (i := 17) (oi := ⟨some 51, _, _, _, _, _⟩) (v := ?vl15) rfl (by kernel_rfl) (by kernel_rfl) (by kernel_rfl) (fun _ _ _ h => h) (Or.inl ⟨by rfl, ?hyl15⟩) (by assumption) ?restl15
    case hyl15 => (intro V hSw; (try dsimp only at hSw); go_simp; first | done | (with_reducible rfl))
    try simp only [Act.put, List.setIfInBounds_toArray, List.set_cons_zero, List.set_cons_succ]
    refine wpAnyH_done (by kernel_rfl) ?_ _
    have OV := hide (O9.out.trans0 OS.out)
    have BX := hide (BX9.out.only OS.out (by simp))
    have j0 := BX.out.cell 0
    have j1 := BX.out.cell 1
    have j2 := BX.out.cell 2
    have j3 := BX.out.cell 3
    have j4 := BX.out.cell 4
    have RM := hide (fun U1 (o : True) => RM1.out U1)
    clear hHeld OS KX KY KZ BX9 BY9 BZ9 O9 MY RM1
    go_wp2_with (first
      | (go_at_call 12; (with_reducible refine (RM.out _ trivial).mono ?_); rintro e v1 ⟨rfl, o'⟩; have BX1 := hide (BX.out.only o' (by simp)); have O1 := hide (OV.out.trans0 o'); clear o'; have j0 := BX1.out.cell 0; have j1 := BX1.out.cell 1; have j2 := BX1.out.cell 2; have j3 := BX1.out.cell 3; have j4 := BX1.out.cell 4)
      | (go_at_call 8; (with_reducible refine (P2.out _ O1.out).mono ?_); rintro e v2 ⟨rfl, o'⟩; have BX2 := hide ((BX1.out.only o' (by simp)).alloc (.cells #[.int .i64 i.op, .int .i64 i.d, .int .i64 i.a, .int .i64 i.b, .int .i64 i.imm] 24)); have BW2 := hide (Blk.new v2 24 #[.int .i64 i.op, .int .i64 i.d, .int .i64 i.a, .int .i64 i.b, .int .i64 i.imm]); have O2 := hide ((O1.out.trans0 o').alloc (.cells #[.int .i64 i.op, .int .i64 i.d, .int .i64 i.a, .int .i64 i.b, .int .i64 i.imm] 24)); clear o' j0 j1 j2 j3 j4; have j0 := BX2.out.cell 0; have j1 := BX2.out.cell 1; have j2 := BX2.out.cell 2; have j3 := BX2.out.cell 3; have j4 := BX2.out.cell 4)
      | (go_at_call 13; (with_reducible refine (RL.out _ O2.out).mono ?_); rintro e v3 ⟨rfl, o'⟩; have bx := BX2.out.only o' (by simp); have bw := BW2.out.only o' (by simp); have O3 := hide (O2.out.trans0 o'); clear o' j0 j1 j2 j3 j4; have j0 := bx.cell 0; have j1 := bx.cell 1; have j2 := bx.cell 2; have j3 := bx.cell 3; have j4 := bx.cell 4; have k0 := bw.cell 0; have k1 := bw.cell 1; have k2 := bw.cell 2; have k3 := bw.cell 3; have k4 := bw.cell 4; clear bx bw)
      | (go_at_call 10; (with_reducible refine (num_any _ _).mono ?_); rintro e v8 ⟨rfl, rfl⟩)
      | (go_at_call 6; (with_reducible refine (KN.out _ O3.out).mono ?_); rintro e v9 ⟨rfl, o'⟩; have O9 := hide (O3.out.trans0 o'); clear o'))
    go_ret
    exact ⟨rfl, O9.out⟩
  | false =>
    rw [hmay] at LN RM1
    simp only [Bool.false_eq_true, if_false, show bs [] = ⟨#[]⟩ from rfl] at LN
    have RM1 := hide RM1
    have LN := hide LN
    have MY := hide MY0
    have RM := hide RM0
    clear hmay him hw4 P2 RL MY0 RM0
    go_enter Tryd.func3, Tryd.ntmps3
    go_wp2_with (first
      | (go_at_call 7; (with_reducible refine (LN.out _ O1.out).mono ?_); rintro e w7 ⟨rfl, o'⟩; have B7 := hide (B1.out.only o' (by simp)); have O7 := hide (O1.out.trans0 o'); clear o' x0 x1 x2 x3 x4 B1 O1 LN)
      | (go_at_call 8; (with_reducible refine (P8.out _ O7.out).mono ?_); rintro e w8 ⟨rfl, o'⟩; have BX8 := hide ((B7.out.only o' (by simp)).alloc (.cells #[.int .i64 o, .int .i64 d, .int .i64 a, .int .i64 b, .int .i64 m] 24)); have BY8 := hide (Blk.new w8 24 #[.int .i64 o, .int .i64 d, .int .i64 a, .int .i64 b, .int .i64 m]); have O8 := hide ((O7.out.trans0 o').alloc (.cells #[.int .i64 o, .int .i64 d, .int .i64 a, .int .i64 b, .int .i64 m] 24)); clear o' B7 O7 P8)
      | (go_at_call 9; (with_reducible refine (P9.out _ O8.out).mono ?_); rintro e w9 ⟨rfl, o'⟩; have BX9 := hide ((BX8.out.only o' (by simp)).alloc (.cells #[.int .i64 o, .int .i64 d, .int .i64 a, .int .i64 b, .int .i64 m] 24)); have BY9 := hide ((BY8.out.only o' (by simp)).alloc (.cells #[.int .i64 o, .int .i64 d, .int .i64 a, .int .i64 b, .int .i64 m] 24)); have BZ9 := hide (Blk.new w9 24 #[.int .i64 o, .int .i64 d, .int .i64 a, .int .i64 b, .int .i64 m]); have O9 := hide ((O8.out.trans0 o').alloc (.cells #[.int .i64 o, .int .i64 d, .int .i64 a, .int .i64 b, .int .i64 m] 24)); clear o' BX8 BY8 O8 P9))
    obtain ⟨V, hV⟩ : ∃ V, w9.alloc (.cells #[.int .i64 o, .int .i64 d, .int .i64 a, .int .i64 b, .int .i64 m] 24) = V := ⟨_, rfl⟩
    obtain ⟨X, hX⟩ : ∃ X, w.heap.size = X := ⟨_, rfl⟩
    obtain ⟨Y, hY⟩ : ∃ Y, w8.heap.size = Y := ⟨_, rfl⟩
    obtain ⟨Z, hZ⟩ : ∃ Z, w9.heap.size = Z := ⟨_, rfl⟩
    rw [hV, hX] at BX9
    rw [hV, hY] at BY9
    rw [hV, hZ] at BZ9
    rw [hV] at O9
    simp only [hV, hX, hY, hZ]
    have KX := hide (fun U1 (oo : Only [] V U1) => show U1.cell? ⟨X, 0, none⟩ = some (.int .i64 i.op) ∧ U1.cell? ⟨X, 1, none⟩ = some (.int .i64 i.d) ∧ U1.cell? ⟨X, 2, none⟩ = some (.int .i64 i.a) ∧ U1.cell? ⟨X, 3, none⟩ = some (.int .i64 i.b) ∧ U1.cell? ⟨X, 4, none⟩ = some (.int .i64 i.imm) from by have := BX9.out.only oo (by simp); exact ⟨this.cell 0, this.cell 1, this.cell 2, this.cell 3, this.cell 4⟩)
    have KY := hide (fun U1 (oo : Only [] V U1) => show U1.cell? ⟨Y, 0, none⟩ = some (.int .i64 o) ∧ U1.cell? ⟨Y, 1, none⟩ = some (.int .i64 d) ∧ U1.cell? ⟨Y, 2, none⟩ = some (.int .i64 a) ∧ U1.cell? ⟨Y, 3, none⟩ = some (.int .i64 b) ∧ U1.cell? ⟨Y, 4, none⟩ = some (.int .i64 m) from by have := BY9.out.only oo (by simp); exact ⟨this.cell 0, this.cell 1, this.cell 2, this.cell 3, this.cell 4⟩)
    have KZ := hide (fun U1 (oo : Only [] V U1) => show U1.cell? ⟨Z, 0, none⟩ = some (.int .i64 o) ∧ U1.cell? ⟨Z, 1, none⟩ = some (.int .i64 d) ∧ U1.cell? ⟨Z, 2, none⟩ = some (.int .i64 a) ∧ U1.cell? ⟨Z, 3, none⟩ = some (.int .i64 b) ∧ U1.cell? ⟨Z, 4, none⟩ = some (.int .i64 m) from by have := BZ9.out.only oo (by simp); exact ⟨this.cell 0, this.cell 1, this.cell 2, this.cell 3, this.cell 4⟩)
    have MY := hide (fun U1 (o : True) => MY.out U1)
    have RM := hide (fun U1 (o : True) => RM.out U1)
    clear hV hX hY hZ
    refine wp_region_held_drew (S := (fun U1 => Only [] V U1)) (by kernel_rfl) ((Only.refl _ V).drew) (fun hHeld => ?_)
    revert hHeld
    generalize V.drew = u0
    intro hHeld
    refine wpAnyH_take (i := 0) (oi := ⟨some 34, _, _, _, _, _⟩) (v := ?vk1) rfl (by kernel_rfl) (by kernel_rfl) (by kernel_rfl) (fun _ _ _ h => h) (Or.inl ⟨by rfl, ?hyk1⟩) (by assumption) ?restk1
    case hyk1 => (intro V hSw; (try dsimp only at hSw); obtain ⟨y0, y1, y2, y3, y4⟩ := KY.out V hSw; go_simp; first | done | (with_reducible rfl))
    try simp only [Act.put, List.setIfInBounds_toArray, List.set_cons_zero, List.set_cons_succ]
    refine wpAnyH_take (i := 1) (oi := ⟨some 35, _, _, _, _, _⟩) (v := ?vk2) rfl (by kernel_rfl) (by kernel_rfl) (by kernel_rfl) (fun _ _ _ h => h) (Or.inl ⟨by rfl, ?hyk2⟩) (by assumption) ?restk2
    case hyk2 => (intro V hSw; (try dsimp only at hSw); obtain ⟨z0, z1, z2, z3, z4⟩ := KZ.out V hSw; go_simp; first | done | (with_reducible rfl))
    try simp only [Act.put, List.setIfInBounds_toArray, List.set_cons_zero, List.set_cons_succ]
    refine wpAnyH_take (i := 2) (oi := ⟨some 36, _, _, _, _, _⟩) (v := ?vk3) rfl (by kernel_rfl) (by kernel_rfl) (by kernel_rfl) (fun _ _ _ h => h) (Or.inl ⟨by rfl, ?hyk3⟩) (by assumption) ?restk3
    case hyk3 => (intro V hSw; (try dsimp only at hSw); go_simp; first | done | (with_reducible rfl))
    try simp only [Act.put, List.setIfInBounds_toArray, List.set_cons_zero, List.set_cons_succ]
    refine wpAnyH_take (i := 3) (oi := ⟨some 37, _, _, _, _, _⟩) (v := ?vk4) rfl (by kernel_rfl) (by kernel_rfl) (by kernel_rfl) (fun _ _ _ h => h) (Or.inl ⟨by rfl, ?hyk4⟩) (by assumption) ?restk4
    case hyk4 => (intro V hSw; (try dsimp only at hSw); go_simp; first | done | (with_reducible rfl))
    try simp only [Act.put, List.setIfInBounds_toArray, List.set_cons_zero, List.set_cons_succ]
    refine wpAnyH_take (i := 4) (oi := ⟨some 38, _, _, _, _, _⟩) (v := ?vk5) rfl (by kernel_rfl) (by kernel_rfl) (by kernel_rfl) (fun _ _ _ h => h) (Or.inl ⟨by rfl, ?hyk5⟩) (by assumption) ?restk5
    case hyk5 => (intro V hSw; (try dsimp only at hSw); go_simp; first | done | (with_reducible rfl))
    try simp only [Act.put, List.setIfInBounds_toArray, List.set_cons_zero, List.set_cons_succ]
    refine wpAnyH_take (i := 6) (oi := ⟨some 40, _, _, _, _, _⟩) (v := ?vk6) rfl (by kernel_rfl) (by kernel_rfl) (by kernel_rfl) (fun _ _ _ h => h) (Or.inl ⟨by rfl, ?hyk6⟩) (by assumption) ?restk6
    case hyk6 => (intro V hSw; (try dsimp only at hSw); go_simp; first | done | (with_reducible rfl))
    try simp only [Act.put, List.setIfInBounds_toArray, List.set_cons_zero, List.set_cons_succ]
    refine wpAnyH_ready (rs := [5]) (by kernel_rfl) (by simp) ?_
    refine AllReadyH.cons (o := ⟨some 39, _, _, _, _, _⟩) rfl (fun K hK => ?_) (AllReadyH.nil)
    rw [if_pos (by rfl)]
    go_simp
    (with_reducible refine (num_any _ _).mono ?_); rintro e u5 ⟨rfl, hu⟩; have OS := hide (show Only [] V u5 from by rw [hu]; exact (show Only [] V u0 from hHeld)); clear hu
    try dsimp only
    refine hK.out _ _ (OS.out) (fun hHeld => ?_)
    clear hK K
    try simp only [Act.put, List.setIfInBounds_toArray, List.set_cons_zero, List.set_cons_succ]
    refine wpAnyH_take (i := 7) (oi := ⟨some 41, _, _, _, _, _⟩) (v := ?vk7) rfl (by kernel_rfl) (by kernel_rfl) (by kernel_rfl) (fun _ _ _ h => h) (Or.inl ⟨by rfl, ?hyk7⟩) (by assumption) ?restk7
    case hyk7 => (intro V hSw; (try dsimp only at hSw); go_simp; first | done | (with_reducible rfl))
    try simp only [Act.put, List.setIfInBounds_toArray, List.set_cons_zero, List.set_cons_succ]
    refine wpAnyH_take (i := 8) (oi := ⟨some 42, _, _, _, _, _⟩) (v := ?vk8) rfl (by kernel_rfl) (by kernel_rfl) (by kernel_rfl) (fun _ _ _ h => h) (Or.inl ⟨by rfl, ?hyk8⟩) (by assumption) ?restk8
    case hyk8 => (intro V hSw; (try dsimp only at hSw); go_simp; first | done | (with_reducible rfl))
    try simp only [Act.put, List.setIfInBounds_toArray, List.set_cons_zero, List.set_cons_succ]
    refine wpAnyH_take (i := 9) (oi := ⟨some 43, _, _, _, _, _⟩) (v := ?vk9) rfl (by kernel_rfl) (by kernel_rfl) (by kernel_rfl) (fun _ _ _ h => h) (Or.inl ⟨by rfl, ?hyk9⟩) (by assumption) ?restk9
    case hyk9 => (intro V hSw; (try dsimp only at hSw); go_simp; first | done | (with_reducible rfl))
    try simp only [Act.put, List.setIfInBounds_toArray, List.set_cons_zero, List.set_cons_succ]
    refine wpAnyH_take (i := 10) (oi := ⟨some 44, _, _, _, _, _⟩) (v := ?vk10) rfl (by kernel_rfl) (by kernel_rfl) (by kernel_rfl) (fun _ _ _ h => h) (Or.inl ⟨by rfl, ?hyk10⟩) (by assumption) ?restk10
    case hyk10 => (intro V hSw; (try dsimp only at hSw); obtain ⟨x0, x1, x2, x3, x4⟩ := KX.out V hSw; go_simp; first | done | (with_reducible rfl))
    try simp only [Act.put, List.setIfInBounds_toArray, List.set_cons_zero, List.set_cons_succ]
    refine wpAnyH_take (i := 11) (oi := ⟨some 45, _, _, _, _, _⟩) (v := ?vk11) rfl (by kernel_rfl) (by kernel_rfl) (by kernel_rfl) (fun _ _ _ h => h) (Or.inl ⟨by rfl, ?hyk11⟩) (by assumption) ?restk11
    case hyk11 => (intro V hSw; (try dsimp only at hSw); go_simp; first | done | (with_reducible rfl))
    try simp only [Act.put, List.setIfInBounds_toArray, List.set_cons_zero, List.set_cons_succ]
    refine wpAnyH_take (i := 13) (oi := ⟨some 47, _, _, _, _, _⟩) (v := ?vk12) rfl (by kernel_rfl) (by kernel_rfl) (by kernel_rfl) (fun _ _ _ h => h) (Or.inl ⟨by rfl, ?hyk12⟩) (by assumption) ?restk12
    case hyk12 => (intro V hSw; (try dsimp only at hSw); obtain ⟨x0, x1, x2, x3, x4⟩ := KX.out V hSw; go_simp; first | done | (with_reducible rfl))
    try simp only [Act.put, List.setIfInBounds_toArray, List.set_cons_zero, List.set_cons_succ]
    refine wpAnyH_take (i := 14) (oi := ⟨some 48, _, _, _, _, _⟩) (v := ?vk13) rfl (by kernel_rfl) (by kernel_rfl) (by kernel_rfl) (fun _ _ _ h => h) (Or.inl ⟨by rfl, ?hyk13⟩) (by assumption) ?restk13
    case hyk13 => (intro V hSw; (try dsimp only at hSw); go_simp; first | done | (with_reducible rfl))
    try simp only [Act.put, List.setIfInBounds_toArray, List.set_cons_zero, List.set_cons_succ]
    refine wpAnyH_ready (rs := [12]) (by kernel_rfl) (by simp) ?_
    refine AllReadyH.cons (o := ⟨some 46, _, _, _, _, _⟩) rfl (fun K hK => ?_) (AllReadyH.nil)
    rw [if_pos (by rfl)]
    go_simp
    (with_reducible refine (MY.out _ trivial).mono ?_); rintro e u6 ⟨rfl, o'⟩; have OS := hide (show Only [] V u6 from (show Only [] V u5 from hHeld).trans0 o'); clear o'
    try dsimp only
    refine hK.out _ _ (OS.out) (fun hHeld => ?_)
    clear hK K
    try simp only [Act.put, List.setIfInBounds_toArray, List.set_cons_zero, List.set_cons_succ]
    refine wpAnyH_ready (rs := [15]) (by kernel_rfl) (by simp) ?_
    refine AllReadyH.cons (o := ⟨some 49, _, _, _, _, _⟩) rfl (fun K hK => ?_) (AllReadyH.nil)
    rw [if_pos (by rfl)]
    go_simp
    (with_reducible refine (RM.out _ trivial).mono ?_); rintro e u7 ⟨rfl, o'⟩; have OS := hide (show Only [] V u7 from (show Only [] V u6 from hHeld).trans0 o'); clear o'
    try dsimp only
    refine hK.out _ _ (OS.out) (fun hHeld => ?_)
    clear hK K
    try simp only [Act.put, List.setIfInBounds_toArray, List.set_cons_zero, List.set_cons_succ]
    refine wpAnyH_take (i := 16) (oi := ⟨some 50, _, _, _, _, _⟩) (v := ?vk14) rfl (by kernel_rfl) (by kernel_rfl) (by kernel_rfl) (fun _ _ _ h => h) (Or.inl ⟨by rfl, ?hyk14⟩) (by assumption) ?restk14
    case hyk14 => (intro V hSw; (try dsimp only at hSw); go_simp; first | done | (with_reducible rfl))
    try simp only [Act.put, List.setIfInBounds_toArray, List.set_cons_zero, List.set_cons_succ]
    refine wpAnyH_take (i := 17) (oi := ⟨some 51, _, _, _, _, _⟩) (v := ?vk15) rfl (by kernel_rfl) (by kernel_rfl) (by kernel_rfl) (fun _ _ _ h => h) (Or.inl ⟨by rfl, ?hyk15⟩) (by assumption) ?restk15
    case hyk15 => (intro V hSw; (try dsimp only at hSw); go_simp; first | done | (with_reducible rfl))
    try simp only [Act.put, List.setIfInBounds_toArray, List.set_cons_zero, List.set_cons_succ]
    refine wpAnyH_done (by kernel_rfl) ?_ _
    have OV := hide (O9.out.trans0 OS.out)
    have BX := hide (BX9.out.only OS.out (by simp))
    have j0 := BX.out.cell 0
    have j1 := BX.out.cell 1
    have j2 := BX.out.cell 2
    have j3 := BX.out.cell 3
    have j4 := BX.out.cell 4
    have RM := hide (fun U1 (o : True) => RM1.out U1)
    clear hHeld OS KX KY KZ BX9 BY9 BZ9 O9 MY RM1
    go_wp2_with (first
      | (go_at_call 12; (with_reducible refine (RM.out _ trivial).mono ?_); rintro e v1 ⟨rfl, o'⟩; have BX1 := hide (BX.out.only o' (by simp)); have O1 := hide (OV.out.trans0 o'); clear o'; have j0 := BX1.out.cell 0; have j1 := BX1.out.cell 1; have j2 := BX1.out.cell 2; have j3 := BX1.out.cell 3; have j4 := BX1.out.cell 4)
      | (go_at_call 10; (with_reducible refine (num_any _ _).mono ?_); rintro e v8 ⟨rfl, rfl⟩)
      | (go_at_call 6; (with_reducible refine (KN.out _ O1.out).mono ?_); rintro e v9 ⟨rfl, o'⟩; have O9 := hide (O1.out.trans0 o'); clear o'))
    go_ret
    exact ⟨rfl, O9.out⟩
end Go.Proofs.YtmaljajdmgkakaaDoor
