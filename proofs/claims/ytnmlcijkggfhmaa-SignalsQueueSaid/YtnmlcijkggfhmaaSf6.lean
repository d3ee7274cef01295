/- Signals: the walk of SignalsSteps. Condition: the script's cells lie. -/
import Derived.Test.YtnmlcijkggfhmaaSf5
namespace Go.Proofs.Ytnmlcijkggfhmaa
open Go.RowKit Go.Shelf
set_option linter.unusedVariables false
set_option linter.all false
set_option maxRecDepth 20000

theorem stepL_len (T S : Nat) (L : List Snt) (k t n v : Int) (s : Nat) : (stepL T S L k t n v s).length ≤ L.length + 1 := by
  unfold stepL
  split
  · unfold sendL
    split
    · split
      · unfold lowL; split <;> simp
      · simp
    · omega
  · split
    · unfold nextL
      split
      · omega
      · unfold takeL
        have := List.length_eraseP_le (l := L) (p := isK t.toNat (by assumption : Nat × Int).1)
        omega
    · split
      · unfold clrL
        split
        · have := List.length_filter_le (fun x : Snt => !(x.t == t.toNat)) L
          omega
        · omega
      · omega
/-- A script's cells. -/
def StepsAt (w : World) (A : Option Addr) (n : Nat) : Prop := ∀ k, k < n → ∃ (a : Addr) (kd t m v : Int) (s : Nat), A = some a ∧ s < 4294967296 ∧ w.cell? (a.add (k * 5)) = some (.int .i64 kd) ∧ w.cell? ⟨(a.add (k * 5)).block, (a.add (k * 5)).off + 1, none⟩ = some (.int .i64 t) ∧ w.cell? ⟨(a.add (k * 5)).block, (a.add (k * 5)).off + 2, none⟩ = some (.int .i64 m) ∧ w.cell? ⟨(a.add (k * 5)).block, (a.add (k * 5)).off + 3, none⟩ = some (.int .i64 v) ∧ w.cell? ⟨(a.add (k * 5)).block, (a.add (k * 5)).off + 4, none⟩ = some (.int .u32 s)
/-- How the law's loop stands. -/
def Stands3 (w : World) (d n T S : Nat) (vr vi : Value) (wr : World) : Prop :=
  ∃ (k g mb : Nat) (L : List Snt) (M : Nat → Nat) (Bs : List Nat), vr = .pointer (some ⟨g, 0, none⟩) ∧ vi = .int .i64 k ∧ k ≤ n ∧ k ≤ 120 ∧ Hid (L.length ≤ k) ∧ Hid (SG wr g mb T S L M Bs) ∧ Hid (DS wr d T S L M) ∧ Hid (Only [] w wr) ∧ Hid (w.heap.size ≤ g ∧ w.heap.size ≤ mb)
set_option maxHeartbeats 4000000 in
theorem steps_bad (A : Option Addr) (n c : Nat) (a0 a1 leave : Int) (w : World) (hT : ¬ okSize a0 a1) : Calls Try.prog 4 #[.agg #[.int .i64 a0, .int .i64 a1], .slice A n c, .int .i64 leave] w fun e w' => e = .returned (.bool true) ∧ Only [] w w' := by
  have N1 := hide (fun W => new_bad a0 a1 hT W)
  have N2 := hide (fun W => rnew_bad a0 a1 hT W)
  clear hT
  go_enter Try.func4, Try.ntmps4
  go_wp2_with (first
    | (go_at_call 8; (with_reducible refine (N1.out _).mono ?_); rintro e w1 ⟨he, hw⟩; obtain rfl := hw.symm; clear hw; unfold newE at he; subst he)
    | (go_at_call 14; (with_reducible refine (N2.out _).mono ?_); rintro e w1 ⟨rfl, hw⟩; obtain rfl := hw.symm; clear hw)
    | (go_at_call 9; refine (num_any _ _).mono ?_; rintro e w1 ⟨rfl, hw⟩; obtain rfl := hw.symm; clear hw)
    | (go_at_call 7; refine (known_any _).mono ?_; rintro e w5 ⟨rfl, o5⟩; have O5 := hide (((Only.refl [] w).alloc _).trans0 o5); clear o5))
  go_ret
  exact ⟨rfl, O5.out⟩
set_option maxHeartbeats 4000000 in
theorem steps_good (A : Option Addr) (n c T S : Nat) (leave : Int) (w : World) (h1 : 1 ≤ T) (h2 : T ≤ 16) (h3 : 1 ≤ S) (h4 : S ≤ 32) (hA : StepsAt w A n) (hn : n ≤ maxLen) : Calls Try.prog 4 #[.agg #[.int .i64 T, .int .i64 S], .slice A n c, .int .i64 leave] w fun e w' => e = .returned (.bool true) ∧ Only [] w w' := by
  have HA := hide hA
  have N1 := hide (fun W => new_good T S h1 h2 h3 h4 W)
  have N2 := hide (fun W => rnew_good T S h1 h2 h3 h4 W)
  clear hA h1 h2 h3 h4
  unfold maxLen at hn
  go_enter Try.func4, Try.ntmps4
  have bb := Blk.new w 42 #[.int .i64 (T : Int), .int .i64 (S : Int)]
  go_wp2_with (first
    | (go_at_call 8; (with_reducible refine (N1.out _).mono ?_); rintro e w1 ⟨g, mb, he, S1, hg, hm, o1⟩; unfold newE ptr at he; subst he; have O1 := hide (((Only.refl [] w).alloc (.cells #[.int .i64 (T : Int), .int .i64 (S : Int)] 42)).trans0 o1); have S1 := hide S1; have HG := hide (show w.heap.size ≤ g ∧ w.heap.size ≤ mb by simp at hg hm; omega); have b1 := bb.only o1 (by simp); have y0 := b1.cell 0; have y1 := b1.cell 1; clear b1 o1 hg hm)
    | (go_at_call 14; (with_reducible refine (N2.out _).mono ?_); unfold ptr; rintro e w2 ⟨rfl, D2, o2⟩; have S2 := hide (S1.out.only0 o2); have O2 := hide (O1.out.trans0 o2); have D2 := hide D2; clear o2)
    | (go_at_call 9; refine (num_any _ _).mono ?_; rintro e w' ⟨rfl, hw⟩; obtain rfl := hw.symm; clear hw))
  obtain ⟨d, hd⟩ : ∃ d, w1.heap.size = d := ⟨_, rfl⟩
  have hdw : w.heap.size ≤ d := by have := O1.out.size; omega
  rw [hd] at D2 ⊢
  clear hd y0 y1 bb
  go_loopw [7, 9, 10] (fun vr vq vi wr => vq = .pointer (some ⟨d, 0, none⟩) ∧ Stands3 w d n T S vr vi wr) (fun _ _ vi _ => n - (intOf vi).toNat)
  case atStart => exact ⟨rfl, 0, g, mb, [], _, [], rfl, rfl, Nat.zero_le _, Nat.zero_le _, hide (Nat.le_refl _), S2, D2, O2, HG⟩
  case round =>
    obtain ⟨rfl, k, g, mb, L, M, Bs, rfl, rfl, hk, hk2, hLk, hS, hD, hO, hg⟩ := hrel
    have HK := hide hk2
    clear S1 S2 D2 O1 O2 HG N1 N2
    by_cases hgo : k < n ∧ k < 120
    · obtain ⟨a, kd, t, m, v, s, rfl, hs, e0, e1, e2, e3, e4⟩ := HA.out k hgo.1
      have c0 := hO.out.keep0 e0
      have c1 := hO.out.keep0 e1
      have c2 := hO.out.keep0 e2
      have c3 := hO.out.keep0 e3
      have c4 := hO.out.keep0 e4
      have j1 : (k : Int) < (n : Int) := by omega
      have j2 : (k : Int) < 120 := by omega
      have j0 : (0 : Int) ≤ (k : Int) := by omega
      have DO := do_spec hS.out hD.out (by have := hLk.out; omega) kd t m v s hs
      have DO := hide DO
      have HSL := hide hs
      have hlen := hide (stepL_len T S L kd t m v s)
      unfold ptr stpC at DO
      have hk1 := hgo.1
      have hk2 := hgo.2
      have E0 := hide e0
      have E1 := hide e1
      have E2 := hide e2
      have E3 := hide e3
      have E4 := hide e4
      clear hgo e0 e1 e2 e3 e4
      go_wp2_with (first
        | (go_at_call 15; (with_reducible refine DO.out.mono ?_); rintro e w3 ⟨g', mb', Bs', rfl, S', D', O', hg'⟩; have HG' := hide hg'; have SA := stands_any S' D' kd t m v s HSL.out leave; unfold ptr stpC at SA; have SA' := hide SA; have S3 := hide S'; have D3 := hide D'; have O3 := hide (hO.out.trans O' (fun x hx => .inr (by have := hg.out; simp at hx; rcases hx with rfl | rfl | rfl <;> omega))); have z0 := O3.out.keep0 E0.out; have z1 := O3.out.keep0 E1.out; have z2 := O3.out.keep0 E2.out; have z3 := O3.out.keep0 E3.out; have z4 := O3.out.keep0 E4.out; unfold ptr; clear SA S' D' O' hg')
        | (go_at_call 16; (with_reducible refine SA'.out.mono ?_); rintro e w4 ⟨rfl, O4⟩; have S4 := hide (S3.out.only0 O4); have D4 := hide (D3.out.only0 O4); have O4 := hide (O3.out.trans0 O4)))
      go_roundw
      case rel =>
        have hw0 := hO.out.size
        have hge := hg.out
        refine ⟨rfl, k + 1, g', mb', _, _, Bs', rfl, by go_num, by omega, by omega, hide (by have := hlen.out; have := hLk.out; omega), S4, D4, O4, hide ?_⟩
        rcases HG'.out with ⟨rfl, rfl⟩ | ⟨h1, h2⟩
        · exact hge
        · omega
      case measure => simp [intOf]; omega
    · rcases (show ((k : Int) < (n : Int) ∧ ¬ ((k : Int) < 120)) ∨ ¬ ((k : Int) < (n : Int)) from by omega) with ⟨hA1, hA2⟩ | hA1
      all_goals (
        clear hgo
        go_wp2_with (go_at_call 7; refine (known_any _).mono ?_; rintro e w5 ⟨rfl, o5⟩)
        go_ret
        exact ⟨rfl, hO.out.trans0 o5⟩)
theorem steps_walk (A : Option Addr) (n c : Nat) (a0 a1 leave : Int) (w : World) (hA : StepsAt w A n) (hn : n ≤ maxLen) : Calls Try.prog 4 #[.agg #[.int .i64 a0, .int .i64 a1], .slice A n c, .int .i64 leave] w fun e w' => e = .returned (.bool true) ∧ Only [] w w' := by
  by_cases h : okSize a0 a1
  · have h' := h
    unfold okSize at h'
    obtain ⟨T, rfl⟩ : ∃ T : Nat, a0 = T := ⟨a0.toNat, by omega⟩
    obtain ⟨S, rfl⟩ : ∃ S : Nat, a1 = S := ⟨a1.toNat, by omega⟩
    exact steps_good A n c T S leave w (by omega) (by omega) (by omega) (by omega) hA hn
  · exact steps_bad A n c a0 a1 leave w h
end Go.Proofs.Ytnmlcijkggfhmaa
