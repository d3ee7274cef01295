/- Turns: the walk of Same. Condition: both turns lie, or one is not there. -/
import Derived.Test.YtnndengdlokmbaaTuN1
import Derived.Test.YtnndengdlokmbaaTuE
import Derived.Test.YtnndengdlokmbaaTuG
import Derived.Deep.RegionHeld3
import Derived.BigQuiet
namespace Go.Proofs.Ytnndengdlokmbaa
open Go.RowKit
set_option linter.unusedVariables false
set_option linter.all false
set_option maxRecDepth 20000

theorem same_no (v v2 : Option Addr) (w : World) (h : NotIs w v) (h2 : NotIs w v2) : Calls Try.prog 24 #[.pointer v, .pointer v2] w fun e w' => e = .returned (.bool true) ∧ w = w' := by
  have I1 := hide (is_not v w h)
  have I2 := hide (is_not v2 w h2)
  clear h h2
  go_enter Try.func24, Try.ntmps24
  go_wp2_with (first
    | (go_at_call 34; (with_reducible refine I1.out.mono ?_); rintro e w1 ⟨rfl, hw⟩; obtain rfl := hw)
    | (go_at_call 34; (with_reducible refine I2.out.mono ?_); rintro e w1 ⟨rfl, hw⟩; obtain rfl := hw))
  go_ret
  exact ⟨rfl, rfl⟩
theorem BS.isB {w : World} {x g : Nat} {Q : Int} {s : SS} {B : Int} (h : BS w x g Q s B) : Calls Try.prog 34 #[.pointer (some ⟨x, 0, none⟩)] w fun e w' => e = .returned (.bool true) ∧ w = w' := by
  obtain ⟨st, _, _, ⟨cs, hb, hC⟩, hR⟩ := h
  refine (is_any x g w ((hb.cell 0).trans hC.r)).mono ?_
  rintro e w' ⟨he, hw⟩
  exact ⟨he, hw.symm⟩
theorem same_one (v : Option Addr) (x g : Nat) (Q : Int) (s : SS) (B : Int) (w : World) (h : NotIs w v) (h2 : BS w x g Q s B) : Calls Try.prog 24 #[.pointer v, .pointer (some ⟨x, 0, none⟩)] w fun e w' => e = .returned (.bool false) ∧ w = w' := by
  have I1 := hide (is_not v w h)
  have I2 := hide h2.isB
  clear h h2
  go_enter Try.func24, Try.ntmps24
  go_wp2_with (first
    | (go_at_call 34; (with_reducible refine I2.out.mono ?_); rintro e w1 ⟨rfl, hw⟩; obtain rfl := hw)
    | (go_at_call 34; (with_reducible refine I1.out.mono ?_); rintro e w1 ⟨rfl, hw⟩; obtain rfl := hw))
  go_ret
  exact ⟨rfl, rfl⟩
/-- Are two alike? -/
def SameS (Q Q2 : Int) (s s2 : SS) : Prop := (∀ p, 1 ≤ p → p < 32 → s.q p = s2.q p) ∧ Q = Q2 ∧ ∀ t, t < 16 → s.rob t = s2.rob t ∧ s.lf t = s2.lf t
noncomputable instance (Q Q2 : Int) (s s2 : SS) : Decidable (SameS Q Q2 s s2) := Classical.propDecidable _
theorem equal_to (A B : Option Addr) (c d n m : Nat) (l r : List Nat) (hn : l.length = n) (hm : r.length = m) (b : Bool) (hb : decide (l = r) = b) (w : World) (hA : Nsrc w A l) (hB : Nsrc w B r) (h1 : n ≤ 1000) (h2 : m ≤ 1000) :
    Calls Try.prog 50 #[.slice A n c, .slice B m d] w fun e w' => e = .returned (.bool b) ∧ Only [] w w' := by
  subst hn hm hb
  refine (equal_any A B c d l r w hA hB h1 h2).mono ?_
  rintro e w' ⟨he, k, hk⟩
  subst hk
  exact ⟨he, (Only.refl [] w).drewN k⟩
/-- The sixteen threads of turns. -/
theorem BS.row {w : World} {x g : Nat} {Q : Int} {s : SS} {B : Int} (h : BS w x g Q s B) : ∃ cs : List Value, cs.length = 64 ∧ w.rangeAt x 2 cs ∧ has4 cs.toArray (fun t => decide (prioQ s.q t ≠ 0)) s.rob (fun t => (prioQ s.q t : Int)) s.lf ∧ w.cell? ⟨x, 1, none⟩ = some (.int .i64 Q) := by
  obtain ⟨st, _, _, ⟨cs, hb, hC⟩, hR⟩ := h
  have hz := hC.size
  have ex : ∀ (k : Nat) (v : Value), k < 64 → cs[2 + k]? = some v → (cs.extract 2 (2 + 64)).toList.toArray[k]? = some v := fun k v hk h => by
    rw [Array.toArray_toList, Array.getElem?_extract, if_pos (by omega)]
    exact h
  refine ⟨(cs.extract 2 (2 + 64)).toList, by simp [hz], World.rangeAt_of_block hb 2 64, fun t ht => ⟨?_, ?_, ?_, ?_⟩, (hb.cell 1).trans hC.qu⟩
  · exact ex (t * 4) _ (by omega) (hC.inn t ht)
  · exact ex (t * 4 + 1) _ (by omega) (by rw [← Nat.add_assoc]; exact hC.rob t ht)
  · exact ex (t * 4 + 2) _ (by omega) (by rw [← Nat.add_assoc]; exact hC.pr t ht)
  · exact ex (t * 4 + 3) _ (by omega) (by rw [← Nat.add_assoc]; exact hC.lf t ht)
theorem find_congr {α : Type} (f g : α → Bool) : ∀ l : List α, (∀ x ∈ l, f x = g x) → l.find? f = l.find? g
  | [], _ => rfl
  | x :: l, h => by
    rw [List.find?_cons, List.find?_cons, h x (by simp), find_congr f g l (fun y hy => h y (by simp [hy]))]
theorem prioQ_congr {q r : Nat → List Nat} (h : ∀ p, p < 32 → q p = r p) (t : Nat) : prioQ q t = prioQ r t := by
  unfold prioQ
  rw [find_congr _ _ _ fun p hp => by rw [h p (List.mem_range.1 hp)]]
theorem same_tail (Q : Int) (s s2 : SS) (h0 : s.q 0 = []) (h1 : s2.q 0 = []) (hq : ∀ j, 1 ≤ j → j < 32 → s.q j = s2.q j) :
    ((List.range 16).all fun t => decide (prioQ s.q t ≠ 0) == decide (prioQ s2.q t ≠ 0) && (s.rob t == s2.rob t && ((prioQ s.q t : Int) == (prioQ s2.q t : Int) && s.lf t == s2.lf t))) = decide (SameS Q Q s s2) := by
  have hp := prioQ_congr (q := s.q) (r := s2.q) fun p hp => by
    by_cases e : p = 0
    · subst e; rw [h0, h1]
    · exact hq p (by omega) hp
  rw [Bool.eq_iff_iff, List.all_eq_true, decide_eq_true_iff]
  constructor
  · intro h
    refine ⟨hq, rfl, fun t ht => ?_⟩
    have := h t (List.mem_range.2 ht)
    simp only [Bool.and_eq_true, beq_iff_eq] at this
    exact ⟨this.2.1, this.2.2.2⟩
  · intro h t ht
    obtain ⟨a, b⟩ := h.2.2 t (List.mem_range.1 ht)
    simp [hp t, a, b]
theorem size58 : (Try.prog.info? 58).map (·.size) = some 64 := by kernel_rfl
set_option maxHeartbeats 8000000 in
theorem same_any (x g x2 g2 : Nat) (Q Q2 : Int) (s s2 : SS) (B B2 : Int) (w : World) (h : BS w x g Q s B) (h2 : BS w x2 g2 Q2 s2 B2) (b : Bool) (hb : decide (SameS Q Q2 s s2) = b) :
    Calls Try.prog 24 #[.pointer (some ⟨x, 0, none⟩), .pointer (some ⟨x2, 0, none⟩)] w fun e w' => e = .returned (.bool b) ∧ Only [] w w' := by
  have I1 := hide h.isB
  have I2 := hide h2.isB
  have HB := hide hb
  have H1 := hide h
  have H2 := hide h2
  have F1 := hide h.facts.2.1
  have F2 := hide h2.facts.2.1
  clear h h2 hb
  go_enter Try.func24, Try.ntmps24
  go_wp2_with (first
    | (go_at_call 34; (with_reducible refine I1.out.mono ?_); rintro e w1 ⟨rfl, hw⟩; obtain rfl := hw)
    | (go_at_call 34; (with_reducible refine I2.out.mono ?_); rintro e w1 ⟨rfl, hw⟩; obtain rfl := hw))
  go_loopw [5] (fun vp wr => ∃ p : Nat, 1 ≤ p ∧ p ≤ 32 ∧ vp = .int .i64 p ∧ Only [] w wr ∧ ∀ j, 1 ≤ j → j < p → s.q j = s2.q j) (fun vp _ => 32 - (intOf vp).toNat)
  case atStart => exact ⟨1, by omega, by omega, rfl, Only.refl _ _, fun j h1 h2 => by omega⟩
  case round =>
    obtain ⟨p, p1, p2, rfl, hO, hj⟩ := hrel
    have HO := hide hO
    have HJ := hide hj
    clear hO hj
    by_cases hlt : p < 32
    · have d0 : decide (p ≤ 31) = true := decide_eq_true (by omega)
      obtain ⟨N, hN⟩ : ∃ N, (s.q p).length = N := ⟨_, rfl⟩
      obtain ⟨M, hM⟩ : ∃ M, (s2.q p).length = M := ⟨_, rfl⟩
      have hN16 : N ≤ 16 := hN ▸ F1.out p
      have hM16 : M ≤ 16 := hM ▸ F2.out p
      have OF1 := hide (ofN p (by omega) (by omega) N hN wr (H1.out.only HO.out (by simp) (by simp)))
      have OF2 := hide (fun V (o : Only [] wr V) => ofN p (by omega) (by omega) M hM V ((H2.out.only HO.out (by simp) (by simp)).only o (by simp) (by simp)))
      have HN := hide hN
      have HM := hide hM
      clear hN hM
      by_cases he : s.q p = s2.q p
      · have HE := hide he
        have HE2 := hide (decide_eq_true he)
        clear he
        go_wp2_with (first
          | (go_at_call 50; (with_reducible refine (equal_to _ _ _ _ N M _ _ HN.out HM.out true HE2.out _ (HA.out.only0 o7) HC.out (by omega) (by omega)).mono ?_); rintro e w8 ⟨rfl, o8⟩)
          | (go_at_call 16; (with_reducible refine (OF2.out _ o6).mono ?_); rintro e w7 ⟨⟨A3, c3, rfl, own3⟩, hB8, o7⟩; have HC := hide (Nsrc.own' HM.out own3); clear own3 hB8)
          | (go_at_call 16; (with_reducible refine OF1.out.mono ?_); rintro e w6 ⟨⟨A2, c2, rfl, own2⟩, hB7, o6⟩; have HA := hide (Nsrc.own' HN.out own2); clear own2 hB7))
        go_roundw
        case rel => exact ⟨p + 1, by omega, by omega, by go_num, ((HO.out.trans0 o6).trans0 o7).trans0 o8, fun j h1 h2 => by
          by_cases e : j = p
          · subst e; exact HE.out
          · exact HJ.out j h1 (by omega)⟩
        case measure => simp [intOf]; omega
      · have HE2 := hide (decide_eq_false he)
        obtain rfl : b = false := by rw [← HB.out]; exact decide_eq_false fun h => he (h.1 p (by omega) hlt)
        clear he
        go_wp2_with (first
          | (go_at_call 50; (with_reducible refine (equal_to _ _ _ _ N M _ _ HN.out HM.out false HE2.out _ (HA.out.only0 o7) HC.out (by omega) (by omega)).mono ?_); rintro e w8 ⟨rfl, o8⟩)
          | (go_at_call 16; (with_reducible refine (OF2.out _ o6).mono ?_); rintro e w7 ⟨⟨A3, c3, rfl, own3⟩, hB8, o7⟩; have HC := hide (Nsrc.own' HM.out own3); clear own3 hB8)
          | (go_at_call 16; (with_reducible refine OF1.out.mono ?_); rintro e w6 ⟨⟨A2, c2, rfl, own2⟩, hB7, o6⟩; have HA := hide (Nsrc.own' HN.out own2); clear own2 hB7))
        go_ret
        exact ⟨rfl, ((HO.out.trans0 o6).trans0 o7).trans0 o8⟩
    · obtain rfl : p = 32 := by omega
      obtain ⟨cs1, z1, r1, a1, k1⟩ := (H1.out.only HO.out (by simp) (by simp)).row
      obtain ⟨cs2, z2, r2, a2, k2⟩ := (H2.out.only HO.out (by simp) (by simp)).row
      by_cases hQ : Q = Q2
      · subst hQ
        have u58 := Try.underlying58
        have s1 : (Try.prog.info? 58).map (·.size) = some cs1.length := by rw [z1]; exact size58
        have s2' : (Try.prog.info? 58).map (·.size) = some cs2.length := by rw [z2]; exact size58
        have hEq := fun W => (show (Op.equalIn 10000 58 (.agg cs1.toArray) (.agg cs2.toArray)).run Try.prog W = _ from eq58 cs1.toArray cs2.toArray _ _ _ _ _ _ _ _ a1 a2 W)
        obtain ⟨b1, hb1⟩ : ∃ b1, ((List.range 16).all fun t => decide (prioQ s.q t ≠ 0) == decide (prioQ s2.q t ≠ 0) && (s.rob t == s2.rob t && ((prioQ s.q t : Int) == (prioQ s2.q t : Int) && s.lf t == s2.lf t))) = b1 := ⟨_, rfl⟩
        rw [hb1] at hEq
        have HB1 := hide hb1
        clear a1 a2 hb1 z1 z2
        go_wp2_with fail
        refine wp_region_held_drew (S := (fun V => V.cell? ⟨x, 1, none⟩ = some (.int .i64 Q) ∧ V.cell? ⟨x2, 1, none⟩ = some (.int .i64 Q) ∧ V.rangeAt x 2 cs1 ∧ V.rangeAt x2 2 cs2)) (by kernel_rfl) ?_ (fun hHeld => ?_)
        · exact ⟨k1, k2, r1, r2⟩
        refine wpAnyH_take (i := 0) (oi := ⟨some 31, _, _, _, _, _⟩) (v := ?v0) rfl (by kernel_rfl) (by kernel_rfl) (by kernel_rfl) (fun _ _ _ h => h) (Or.inl ⟨by rfl, ?hy0⟩) (by assumption) ?rest0
        case hy0 => (intro V hSw; (try dsimp only at hSw); obtain ⟨hs1, hs2, hs3, hs4⟩ := hSw; go_simp; first | done | (with_reducible rfl))
        try simp only [Act.put, List.setIfInBounds_toArray, List.set_cons_zero, List.set_cons_succ]
        refine wpAnyH_take (i := 1) (oi := ⟨some 32, _, _, _, _, _⟩) (v := ?v1) rfl (by kernel_rfl) (by kernel_rfl) (by kernel_rfl) (fun _ _ _ h => h) (Or.inl ⟨by rfl, ?hy1⟩) (by assumption) ?rest1
        case hy1 => (intro V hSw; (try dsimp only at hSw); obtain ⟨hs1, hs2, hs3, hs4⟩ := hSw; go_simp; first | done | (with_reducible rfl))
        try simp only [Act.put, List.setIfInBounds_toArray, List.set_cons_zero, List.set_cons_succ]
        refine wpAnyH_take (i := 2) (oi := ⟨some 33, _, _, _, _, _⟩) (v := ?v2) rfl (by kernel_rfl) (by kernel_rfl) (by kernel_rfl) (fun _ _ _ h => h) (Or.inl ⟨by rfl, ?hy2⟩) (by assumption) ?rest2
        case hy2 => (intro V hSw; (try dsimp only at hSw); obtain ⟨hs1, hs2, hs3, hs4⟩ := hSw; go_simp; first | done | (with_reducible rfl))
        try simp only [Act.put, List.setIfInBounds_toArray, List.set_cons_zero, List.set_cons_succ]
        refine wpAnyH_take (i := 3) (oi := ⟨some 34, _, _, _, _, _⟩) (v := ?v3) rfl (by kernel_rfl) (by kernel_rfl) (by kernel_rfl) (fun _ _ _ h => h) (Or.inl ⟨by rfl, ?hy3⟩) (by assumption) ?rest3
        case hy3 => (intro V hSw; (try dsimp only at hSw); obtain ⟨hs1, hs2, hs3, hs4⟩ := hSw; go_simp; first | done | (with_reducible rfl))
        try simp only [Act.put, List.setIfInBounds_toArray, List.set_cons_zero, List.set_cons_succ]
        refine wpAnyH_take (i := 4) (oi := ⟨some 35, _, _, _, _, _⟩) (v := ?v4) rfl (by kernel_rfl) (by kernel_rfl) (by kernel_rfl) (fun _ _ _ h => h) (Or.inl ⟨by rfl, ?hy4⟩) (by assumption) ?rest4
        case hy4 => (intro V hSw; (try dsimp only at hSw); obtain ⟨hs1, hs2, hs3, hs4⟩ := hSw; go_simp; first | done | (with_reducible rfl))
        try simp only [Act.put, List.setIfInBounds_toArray, List.set_cons_zero, List.set_cons_succ]
        refine wpAnyH_take (i := 5) (oi := ⟨some 36, _, _, _, _, _⟩) (v := ?v5) rfl (by kernel_rfl) (by kernel_rfl) (by kernel_rfl) (fun _ _ _ h => h) (Or.inl ⟨by rfl, ?hy5⟩) (by assumption) ?rest5
        case hy5 => (intro V hSw; (try dsimp only at hSw); obtain ⟨hs1, hs2, hs3, hs4⟩ := hSw; go_simp; first | done | (with_reducible rfl))
        try simp only [Act.put, List.setIfInBounds_toArray, List.set_cons_zero, List.set_cons_succ]
        refine wpAnyH_take (i := 6) (oi := ⟨some 37, _, _, _, _, _⟩) (v := ?v6) rfl (by kernel_rfl) (by kernel_rfl) (by kernel_rfl) (fun _ _ _ h => h) (Or.inl ⟨by rfl, ?hy6⟩) (by assumption) ?rest6
        case hy6 => (intro V hSw; (try dsimp only at hSw); obtain ⟨hs1, hs2, hs3, hs4⟩ := hSw; go_simp; first | done | (with_reducible rfl))
        try simp only [Act.put, List.setIfInBounds_toArray, List.set_cons_zero, List.set_cons_succ]
        refine wpAnyH_take (i := 7) (oi := ⟨some 38, _, _, _, _, _⟩) (v := ?v7) rfl (by kernel_rfl) (by kernel_rfl) (by kernel_rfl) (fun _ _ _ h => h) (Or.inl ⟨by rfl, ?hy7⟩) (by assumption) ?rest7
        case hy7 => (intro V hSw; (try dsimp only at hSw); obtain ⟨hs1, hs2, hs3, hs4⟩ := hSw; go_simp; first | done | (with_reducible rfl))
        try simp only [Act.put, List.setIfInBounds_toArray, List.set_cons_zero, List.set_cons_succ]
        refine wpAnyH_take (i := 8) (oi := ⟨some 39, _, _, _, _, _⟩) (v := ?v8) rfl (by kernel_rfl) (by kernel_rfl) (by kernel_rfl) (fun _ _ _ h => h) (Or.inl ⟨by rfl, ?hy8⟩) (by assumption) ?rest8
        case hy8 => (intro V hSw; (try dsimp only at hSw); obtain ⟨hs1, hs2, hs3, hs4⟩ := hSw; go_simp; first | done | (with_reducible rfl))
        try simp only [Act.put, List.setIfInBounds_toArray, List.set_cons_zero, List.set_cons_succ]
        refine wpAnyH_take (i := 9) (oi := ⟨some 40, _, _, _, _, _⟩) (v := ?v9) rfl (by kernel_rfl) (by kernel_rfl) (by kernel_rfl) (fun _ _ _ h => h) (Or.inl ⟨by rfl, ?hy9⟩) (by assumption) ?rest9
        case hy9 => (intro V hSw; (try dsimp only at hSw); obtain ⟨hs1, hs2, hs3, hs4⟩ := hSw; go_simp; first | done | (with_reducible rfl))
        try simp only [Act.put, List.setIfInBounds_toArray, List.set_cons_zero, List.set_cons_succ]
        refine wpAnyH_take (i := 10) (oi := ⟨some 41, _, _, _, _, _⟩) (v := ?v10) rfl (by kernel_rfl) (by kernel_rfl) (by kernel_rfl) (fun _ _ _ h => h) (Or.inl ⟨by rfl, ?hy10⟩) (by assumption) ?rest10
        case hy10 => (intro V hSw; (try dsimp only at hSw); obtain ⟨hs1, hs2, hs3, hs4⟩ := hSw; go_simp; first | done | (with_reducible rfl))
        try simp only [Act.put, List.setIfInBounds_toArray, List.set_cons_zero, List.set_cons_succ]
        refine wpAnyH_take (i := 11) (oi := ⟨some 42, _, _, _, _, _⟩) (v := ?v11) rfl (by kernel_rfl) (by kernel_rfl) (by kernel_rfl) (fun _ _ _ h => h) (Or.inl ⟨by rfl, ?hy11⟩) (by assumption) ?rest11
        case hy11 => (intro V hSw; (try dsimp only at hSw); obtain ⟨hs1, hs2, hs3, hs4⟩ := hSw; go_simp; first | done | (with_reducible rfl))
        try simp only [Act.put, List.setIfInBounds_toArray, List.set_cons_zero, List.set_cons_succ]
        refine wpAnyH_take (i := 12) (oi := ⟨some 43, _, _, _, _, _⟩) (v := ?v12) rfl (by kernel_rfl) (by kernel_rfl) (by kernel_rfl) (fun _ _ _ h => h) (Or.inl ⟨by rfl, ?hy12⟩) (by assumption) ?rest12
        case hy12 => (intro V hSw; (try dsimp only at hSw); obtain ⟨hs1, hs2, hs3, hs4⟩ := hSw; go_simp; first | done | (with_reducible rfl))
        try simp only [Act.put, List.setIfInBounds_toArray, List.set_cons_zero, List.set_cons_succ]
        refine' wpAnyH_take (i := 13) (oi := ⟨some 44, _, _, _, _, _⟩) (v := _) rfl (by kernel_rfl) (by kernel_rfl) (by kernel_rfl) (fun _ _ _ h => h) (yieldsIf_load_mid (by rfl) _ _ rfl _ _ rfl _ _ ?hS13 u58 rfl s1) (by assumption) ?rest13
        case hS13 => exact fun V hSw => hSw.2.2.1
        try simp only [Act.put, List.setIfInBounds_toArray, List.set_cons_zero, List.set_cons_succ]
        refine wpAnyH_take (i := 14) (oi := ⟨some 45, _, _, _, _, _⟩) (v := ?v14) rfl (by kernel_rfl) (by kernel_rfl) (by kernel_rfl) (fun _ _ _ h => h) (Or.inl ⟨by rfl, ?hy14⟩) (by assumption) ?rest14
        case hy14 => (intro V hSw; (try dsimp only at hSw); obtain ⟨hs1, hs2, hs3, hs4⟩ := hSw; go_simp; first | done | (with_reducible rfl))
        try simp only [Act.put, List.setIfInBounds_toArray, List.set_cons_zero, List.set_cons_succ]
        refine wpAnyH_take (i := 15) (oi := ⟨some 46, _, _, _, _, _⟩) (v := ?v15) rfl (by kernel_rfl) (by kernel_rfl) (by kernel_rfl) (fun _ _ _ h => h) (Or.inl ⟨by rfl, ?hy15⟩) (by assumption) ?rest15
        case hy15 => (intro V hSw; (try dsimp only at hSw); obtain ⟨hs1, hs2, hs3, hs4⟩ := hSw; go_simp; first | done | (with_reducible rfl))
        try simp only [Act.put, List.setIfInBounds_toArray, List.set_cons_zero, List.set_cons_succ]
        refine wpAnyH_take (i := 16) (oi := ⟨some 47, _, _, _, _, _⟩) (v := ?v16) rfl (by kernel_rfl) (by kernel_rfl) (by kernel_rfl) (fun _ _ _ h => h) (Or.inl ⟨by rfl, ?hy16⟩) (by assumption) ?rest16
        case hy16 => (intro V hSw; (try dsimp only at hSw); obtain ⟨hs1, hs2, hs3, hs4⟩ := hSw; go_simp; first | done | (with_reducible rfl))
        try simp only [Act.put, List.setIfInBounds_toArray, List.set_cons_zero, List.set_cons_succ]
        refine' wpAnyH_take (i := 17) (oi := ⟨some 48, _, _, _, _, _⟩) (v := _) rfl (by kernel_rfl) (by kernel_rfl) (by kernel_rfl) (fun _ _ _ h => h) (yieldsIf_load_mid (by rfl) _ _ rfl _ _ rfl _ _ ?hS17 u58 rfl s2') (by assumption) ?rest17
        case hS17 => exact fun V hSw => hSw.2.2.2
        try simp only [Act.put, List.setIfInBounds_toArray, List.set_cons_zero, List.set_cons_succ]
        refine wpAnyH_take (i := 18) (oi := ⟨some 49, _, _, _, _, _⟩) (v := ?v18) rfl (by kernel_rfl) (by kernel_rfl) (by kernel_rfl) (fun _ _ _ h => h) (Or.inl ⟨by rfl, ?hy18⟩) (by assumption) ?rest18
        case hy18 => (intro V hSw; (try dsimp only at hSw); obtain ⟨hs1, hs2, hs3, hs4⟩ := hSw; go_simp; first | done | (with_reducible rfl))
        try simp only [Act.put, List.setIfInBounds_toArray, List.set_cons_zero, List.set_cons_succ]
        refine wpAnyH_take (i := 19) (oi := ⟨some 50, _, _, _, _, _⟩) (v := ?v19) rfl (by kernel_rfl) (by kernel_rfl) (by kernel_rfl) (fun _ _ _ h => h) (Or.inl ⟨by rfl, ?hy19⟩) (by assumption) ?rest19
        case hy19 => (intro V hSw; (try dsimp only at hSw); obtain ⟨hs1, hs2, hs3, hs4⟩ := hSw; go_simp; first | done | (with_reducible rfl))
        try simp only [Act.put, List.setIfInBounds_toArray, List.set_cons_zero, List.set_cons_succ]
        refine wpAnyH_take (i := 20) (oi := ⟨some 4, _, _, _, _, _⟩) (v := ?v20) rfl (by kernel_rfl) (by kernel_rfl) (by kernel_rfl) (fun _ _ _ h => h) (Or.inl ⟨by rfl, ?hy20⟩) (by assumption) ?rest20
        case hy20 => (intro V hSw; (try dsimp only at hSw); obtain ⟨hs1, hs2, hs3, hs4⟩ := hSw; go_simp; first | done | (with_reducible rfl))
        try simp only [Act.put, List.setIfInBounds_toArray, List.set_cons_zero, List.set_cons_succ]
        refine wpAnyH_done (by kernel_rfl) ?_ _
        go_wp2_with fail
        go_ret
        refine ⟨?_, HO.out.drew⟩
        rw [← HB.out, ← HB1.out, same_tail Q s s2 H1.out.facts.1 H2.out.facts.1 HJ.out]
        rfl
      · have g0 : (Q == Q2) = false := by simp [hQ]
        obtain rfl : b = false := by rw [← HB.out]; exact decide_eq_false fun h => hQ h.2.1
        clear a1 a2 r1 r2 z1 z2 hQ
        go_wp2_with fail
        go_quiet (fail)
        go_wp2_with fail
        go_ret
        exact ⟨rfl, HO.out.drewN _⟩
end Go.Proofs.Ytnndengdlokmbaa
