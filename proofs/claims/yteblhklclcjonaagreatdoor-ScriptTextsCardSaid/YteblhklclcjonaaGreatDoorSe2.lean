/- Script: the walks of Line, of the document's Line and MayStretch. Condition: Env. -/
import Derived.Test.YteblhklclcjonaaGreatDoorSe1
import Derived.Test.YteblhklclcjonaaGreatDoorCd8
namespace Go.Proofs.YteblhklclcjonaaGreatDoor
open Go.RowKit
set_option linter.unusedVariables false
set_option linter.all false
set_option maxRecDepth 20000

theorem itoaE_any (n : Int) (h0 : -9223372036854775808 ≤ n) (h1 : n ≤ 9223372036854775807) (w : World) (he : Env w) : Calls Tryz.prog 31 #[.int .i64 n] w fun e w' => e = .returned (.string (bs (itoaF n))) ∧ Only [] w w' := by
  rw [itoaF_eq n h0 h1]
  exact (Tryz.strconv_Itoa n h0 h1 w he.tab).mono fun e w' ⟨he, k, os, hw⟩ => ⟨he, hw ▸ only_grow w k os⟩
theorem bs_cat (a b : List UInt8) : bs a ++ bs b = bs (a ++ b) := by
  unfold bs
  apply ByteArray.ext
  simp
theorem mayS_eq (k m n : Int) : mayS ⟨⟨k, m⟩, n⟩ = (mayE ⟨k, m⟩ && (decide (1 ≤ n) && (decide (n ≤ 8192) && (!(k == 3) || decide (n ≤ 1))))) := by
  rw [Bool.eq_iff_iff, mayS_iff]
  simp only [Bool.and_eq_true, Bool.or_eq_true, Bool.not_eq_true', decide_eq_true_eq, beq_eq_false_iff_ne, ne_eq]
  constructor
  · rintro ⟨h1, h2, h3, h4⟩
    refine ⟨h1, h2, h3, ?_⟩
    by_cases hk : k = 3
    · exact .inr (h4 hk)
    · exact .inl hk
  · rintro ⟨h1, h2, h3, h4⟩
    exact ⟨h1, h2, h3, fun hk => h4.elim (fun h => absurd hk h) id⟩
set_option maxHeartbeats 1000000 in
theorem sline_bad (k m n : Int) (w : World) (h : mayS ⟨⟨k, m⟩, n⟩ = false) : Calls Tryz.prog 8 #[.agg #[.int .i64 k, .int .i64 m, .int .i64 n]] w fun e w' => e = .returned (.tuple #[.string ⟨#[]⟩, .int .i64 2]) ∧ Only [] w w' := by
  have MY := fun W => may_ev k m W
  rw [mayS_eq] at h
  cases hE : mayE ⟨k, m⟩ with
  | false =>
    rw [hE] at MY
    have MY := hide MY
    clear h hE
    go_enter Tryz.func8, Tryz.ntmps8
    go_wp2_with (go_at_call 13; (with_reducible refine (MY.out _).mono ?_); rintro e w1 ⟨rfl, o⟩; have O1 := hide (((Only.refl [] w).alloc (.cells #[.int .i64 k, .int .i64 m, .int .i64 n] 26)).trans0 o); clear o)
    go_ret2
    exact ⟨rfl, O1.out⟩
  | true =>
    rw [hE] at MY h
    have MY := hide MY
    have B0 := hide (Blk.new w 26 #[.int .i64 k, .int .i64 m, .int .i64 n])
    by_cases c1 : n < 1
    · have d1 : decide (n < 1) = true := decide_eq_true c1
      clear h hE
      go_enter Tryz.func8, Tryz.ntmps8
      go_wp2_with (go_at_call 13; (with_reducible refine (MY.out _).mono ?_); rintro e w1 ⟨rfl, o⟩; have bk := B0.out.only o (by simp); have x0 := bk.cell 0; have x1 := bk.cell 1; have x2 := bk.cell 2; have O1 := hide (((Only.refl [] w).alloc (.cells #[.int .i64 k, .int .i64 m, .int .i64 n] 26)).trans0 o); clear o bk)
      go_ret2
      exact ⟨rfl, O1.out⟩
    · have d1 : decide (n < 1) = false := decide_eq_false c1
      by_cases c2 : 8192 < n
      · have d2 : decide (8192 < n) = true := decide_eq_true c2
        clear h hE
        go_enter Tryz.func8, Tryz.ntmps8
        go_wp2_with (go_at_call 13; (with_reducible refine (MY.out _).mono ?_); rintro e w1 ⟨rfl, o⟩; have bk := B0.out.only o (by simp); have x0 := bk.cell 0; have x1 := bk.cell 1; have x2 := bk.cell 2; have O1 := hide (((Only.refl [] w).alloc (.cells #[.int .i64 k, .int .i64 m, .int .i64 n] 26)).trans0 o); clear o bk)
        go_ret2
        exact ⟨rfl, O1.out⟩
      · have d2 : decide (8192 < n) = false := decide_eq_false c2
        obtain ⟨k3, c3⟩ : k = 3 ∧ 1 < n := by
          rw [decide_eq_true (by omega : 1 ≤ n), decide_eq_true (by omega : n ≤ 8192)] at h
          simp at h
          omega
        have d3 : decide (1 < n) = true := decide_eq_true c3
        subst k3
        clear h hE
        go_enter Tryz.func8, Tryz.ntmps8
        go_wp2_with (go_at_call 13; (with_reducible refine (MY.out _).mono ?_); rintro e w1 ⟨rfl, o⟩; have bk := B0.out.only o (by simp); have x0 := bk.cell 0; have x1 := bk.cell 1; have x2 := bk.cell 2; have O1 := hide (((Only.refl [] w).alloc (.cells #[.int .i64 3, .int .i64 m, .int .i64 n] 26)).trans0 o); clear o bk)
        go_ret2
        exact ⟨rfl, O1.out⟩
set_option maxHeartbeats 1000000 in
theorem sline_good (k m n : Int) (w : World) (he : Env w) (h : mayS ⟨⟨k, m⟩, n⟩ = true) : Calls Tryz.prog 8 #[.agg #[.int .i64 k, .int .i64 m, .int .i64 n]] w fun e w' => e = .returned (.tuple #[.string (bs (lineT ⟨⟨k, m⟩, n⟩)), .int .i64 0]) ∧ Only [] w w' := by
  have MY := fun W => may_ev k m W
  have hb := mayS_num h
  have hm := (mayS_iff _).1 h
  simp only at hb hm
  rw [hm.1] at MY
  have MY := hide MY
  have B0 := hide (Blk.new w 26 #[.int .i64 k, .int .i64 m, .int .i64 n])
  have c1 : ¬ n < 1 := by omega
  have d1 : decide (n < 1) = false := decide_eq_false c1
  have c2 : ¬ 8192 < n := by omega
  have d2 : decide (8192 < n) = false := decide_eq_false c2
  have IN := hide (fun W (o : Only [] w W) => itoaE_any n (by omega) (by omega) W (he.only o))
  have IM := hide (fun W (o : Only [] w W) => itoaE_any m (by omega) (by omega) W (he.only o))
  have L1 := bs_cat [114, 117, 110, 32] (itoaF n)
  have L2 := bs_cat [116, 105, 99, 107, 32] (itoaF n)
  have L3 := bs_cat [105, 110, 116, 101, 114, 114, 117, 112, 116, 32] (itoaF m)
  have ln := pl_itoaF n
  have lm := pl_itoaF m
  have e1 : bs [114, 117, 110, 32] = ⟨#[114, 117, 110, 32]⟩ := rfl
  have e2 : bs [116, 105, 99, 107, 32] = ⟨#[116, 105, 99, 107, 32]⟩ := rfl
  have e3 : bs [105, 110, 116, 101, 114, 114, 117, 112, 116, 32] = ⟨#[105, 110, 116, 101, 114, 114, 117, 112, 116, 32]⟩ := rfl
  rw [e1] at L1
  rw [e2] at L2
  rw [e3] at L3
  have s1 : (bs (itoaF n)).size ≤ 22 := by rw [bs_size]; exact ln
  have s2 : (bs (itoaF m)).size ≤ 22 := by rw [bs_size]; exact lm
  have HN := hide hm.2.2.2
  have z1 : (⟨#[114, 117, 110, 32]⟩ : ByteArray).size = 4 := rfl
  have z2 : (⟨#[116, 105, 99, 107, 32]⟩ : ByteArray).size = 5 := rfl
  have z3 : (⟨#[105, 110, 116, 101, 114, 114, 117, 112, 116, 32]⟩ : ByteArray).size = 10 := rfl
  have q1 : ¬ 9223372036854775807 < (⟨#[114, 117, 110, 32]⟩ : ByteArray).size + (bs (itoaF n)).size := by omega
  have q2 : ¬ 9223372036854775807 < (⟨#[116, 105, 99, 107, 32]⟩ : ByteArray).size + (bs (itoaF n)).size := by omega
  have q3 : ¬ 9223372036854775807 < (⟨#[105, 110, 116, 101, 114, 114, 117, 112, 116, 32]⟩ : ByteArray).size + (bs (itoaF m)).size := by omega
  have OA := hide ((Only.refl [] w).alloc (.cells #[.int .i64 k, .int .i64 m, .int .i64 n] 26))
  clear ln lm s1 s2 z1 z2 z3 e1 e2 e3 he h
  have hk3 : k = 1 ∨ k = 2 ∨ k = 3 := by omega
  clear hb hm
  rcases hk3 with rfl | rfl | rfl
  · have R : lineT ⟨⟨1, m⟩, n⟩ = [114, 117, 110, 32] ++ itoaF n := rfl
    rw [R, ← L1]
    clear R L1 L2 L3 q2 q3 IM HN
    obtain ⟨sn, hsn⟩ : ∃ x, bs (itoaF n) = x := ⟨_, rfl⟩
    rw [hsn] at q1 ⊢
    have IN' := IN.out
    rw [hsn] at IN'
    have IN := hide IN'
    clear IN' hsn
    go_enter Tryz.func8, Tryz.ntmps8
    go_wp2_with (first
      | (go_at_call 13; (with_reducible refine (MY.out _).mono ?_); rintro e w1 ⟨rfl, o⟩; have bk := B0.out.only o (by simp); have x0 := bk.cell 0; have x1 := bk.cell 1; have x2 := bk.cell 2; have O1 := hide (OA.out.trans0 o); clear o bk)
      | (go_at_call 31; (with_reducible refine (IN.out _ O1.out).mono ?_); rintro e w2 ⟨rfl, o⟩; have O2 := hide (O1.out.trans0 o); clear o))
    go_ret2
    exact ⟨rfl, O2.out⟩
  · have R : lineT ⟨⟨2, m⟩, n⟩ = [116, 105, 99, 107, 32] ++ itoaF n := rfl
    rw [R, ← L2]
    clear R L1 L2 L3 q1 q3 IM HN
    obtain ⟨sn, hsn⟩ : ∃ x, bs (itoaF n) = x := ⟨_, rfl⟩
    rw [hsn] at q2 ⊢
    have IN' := IN.out
    rw [hsn] at IN'
    have IN := hide IN'
    clear IN' hsn
    go_enter Tryz.func8, Tryz.ntmps8
    go_wp2_with (first
      | (go_at_call 13; (with_reducible refine (MY.out _).mono ?_); rintro e w1 ⟨rfl, o⟩; have bk := B0.out.only o (by simp); have x0 := bk.cell 0; have x1 := bk.cell 1; have x2 := bk.cell 2; have O1 := hide (OA.out.trans0 o); clear o bk)
      | (go_at_call 31; (with_reducible refine (IN.out _ O1.out).mono ?_); rintro e w2 ⟨rfl, o⟩; have O2 := hide (O1.out.trans0 o); clear o))
    go_ret2
    exact ⟨rfl, O2.out⟩
  · have R : lineT ⟨⟨3, m⟩, n⟩ = [105, 110, 116, 101, 114, 114, 117, 112, 116, 32] ++ itoaF m := rfl
    have c3 : ¬ 1 < n := by have := HN.out rfl; omega
    have d3 : decide (1 < n) = false := decide_eq_false c3
    rw [R, ← L3]
    clear R L1 L2 L3 q1 q2 IN HN
    obtain ⟨sn, hsn⟩ : ∃ x, bs (itoaF m) = x := ⟨_, rfl⟩
    rw [hsn] at q3 ⊢
    have IN' := IM.out
    rw [hsn] at IN'
    have IN := hide IN'
    clear IN' hsn
    go_enter Tryz.func8, Tryz.ntmps8
    go_wp2_with (first
      | (go_at_call 13; (with_reducible refine (MY.out _).mono ?_); rintro e w1 ⟨rfl, o⟩; have bk := B0.out.only o (by simp); have x0 := bk.cell 0; have x1 := bk.cell 1; have x2 := bk.cell 2; have O1 := hide (OA.out.trans0 o); clear o bk)
      | (go_at_call 31; (with_reducible refine (IN.out _ O1.out).mono ?_); rintro e w2 ⟨rfl, o⟩; have O2 := hide (O1.out.trans0 o); clear o))
    go_ret2
    exact ⟨rfl, O2.out⟩
theorem sline_any (k m n : Int) (w : World) (he : Env w) : Calls Tryz.prog 8 #[.agg #[.int .i64 k, .int .i64 m, .int .i64 n]] w fun e w' => e = .returned (.tuple #[.string (if mayS ⟨⟨k, m⟩, n⟩ then bs (lineT ⟨⟨k, m⟩, n⟩) else bs []), .int .i64 (if mayS ⟨⟨k, m⟩, n⟩ then 0 else 2)]) ∧ Only [] w w' := by
  cases h : mayS ⟨⟨k, m⟩, n⟩ with
  | true => exact sline_good k m n w he h
  | false => exact sline_bad k m n w h
end Go.Proofs.YteblhklclcjonaaGreatDoor
