/- Signals: the walk of SignalsQueue. Condition: the script's cells lie. -/
import Derived.Test.YtnmlcijkggfhmaaSq1
import Derived.Test.YtnmlcijkggfhmaaSf6
namespace Go.Proofs.Ytnmlcijkggfhmaa
open Go.RowKit Go.Shelf
set_option linter.unusedVariables false
set_option linter.all false
set_option maxRecDepth 20000
attribute [local go_sem ↓] app_hide
set_option maxHeartbeats 4000000 in
theorem queue_bad (a0 : Int) (A : Option Addr) (n c : Nat) (w : World) (hT : ¬ okSize 3 a0) : Calls Try.prog 3 #[.int .i64 a0, .slice A n c] w fun e w' => e = .returned (.bool true) ∧ Only [] w w' := by
  have N1 := hide (fun W => new_bad 3 a0 hT W)
  clear hT
  go_enter Try.func3, Try.ntmps3
  go_wp2_with (first
    | (go_at_call 7; refine (known_any _).mono ?_; rintro e w0 ⟨rfl, o0⟩; have O0 := hide o0; clear o0)
    | (go_at_call 8; (with_reducible refine (N1.out _).mono ?_); rintro e w1 ⟨he, hw⟩; obtain rfl := hw.symm; clear hw; unfold newE at he; subst he)
    | (go_at_call 9; refine (num_any _ _).mono ?_; rintro e w1 ⟨rfl, hw⟩; obtain rfl := hw.symm; clear hw))
  go_ret
  exact ⟨rfl, O0.out⟩
theorem MR.new {w0 w : World} {g mb S : Nat} {Bs : List Nat} (o : Only [] w0 w) (h : SG w g mb 3 S [] (fun _ => 0) Bs) (h1 : w0.heap.size ≤ g) (h2 : w0.heap.size ≤ mb) :
    MR w0 ((w.alloc (.cells (Array.replicate 32 (.slice none 0 0)) 30)).alloc (.cells (Array.replicate 32 (.slice none 0 0)) 30)) g mb w.heap.size (w.heap.size + 1) S [] (fun _ => []) (fun _ => []) := by
  have hs := o.size
  have hl := h.lt
  have b1 := (Blk.new w 30 (Array.replicate 32 (.slice none 0 0))).alloc (.cells (Array.replicate 32 (.slice none 0 0)) 30)
  have b2 := Blk.new (w.alloc (.cells (Array.replicate 32 (.slice none 0 0)) 30)) 30 (Array.replicate 32 (.slice none 0 0))
  rw [World.size_alloc] at b2
  refine ⟨_, Bs, [], [], h.only0 (((Only.refl [] w).alloc _).alloc _), Arr.new _ _ _ b1 (by omega) (by simp), Arr.new _ _ _ b2 (by omega) (by simp), by simp, by simp, by simp, (o.alloc _).alloc _, ⟨h1, h2, hs⟩, ⟨hl.1, hl.2.1, by omega⟩⟩
theorem z30 (W : World) : (zeroValue 30).run Try.prog W = .ok (.agg (Array.replicate 32 (.slice none 0 0))) W := by kernel_rfl

set_option maxHeartbeats 16000000 in
theorem queue_good (S : Nat) (A : Option Addr) (n c : Nat) (w : World) (h3 : 1 ≤ S) (h4 : S ≤ 32) (hA : StepsAt w A n) (hn : n ≤ maxLen) : Calls Try.prog 3 #[.int .i64 S, .slice A n c] w fun e w' => e = .returned (.bool true) ∧ Only [] w w' := by
  have HA := hide hA
  have N1 := hide (show ∀ W, Calls Try.prog 8 #[.int .i64 3, .int .i64 S] W fun e w' => ∃ g mb, newE (ptr g) 0 e ∧ SG w' g mb 3 S [] (fun _ => 0) [] ∧ W.heap.size ≤ g ∧ W.heap.size ≤ mb ∧ Only [] W w' from fun W => new_good 3 S (by decide) (by decide) h3 h4 W)
  have HS := hide h4
  clear hA h3
  unfold maxLen at hn
  go_enter Try.func3, Try.ntmps3
  go_wp2_with (first
    | (go_at_call 7; refine (known_any _).mono ?_; rintro e w0 ⟨rfl, o0⟩; have O0 := hide o0; clear o0)
    | (go_at_call 8; (with_reducible refine (N1.out _).mono ?_); rintro e w1 ⟨g, mb, he, S1, hg, hm, o1⟩; unfold newE ptr at he; subst he; have M1 := hide (MR.new (O0.out.trans0 o1) S1 (by have := O0.out.size; omega) (by have := O0.out.size; omega)); clear S1 hg hm o1)
    | (go_at_call 9; refine (num_any _ _).mono ?_; rintro e w' ⟨rfl, hw⟩; obtain rfl := hw.symm; clear hw))
  have eR : (Array.replicate 32 (Value.slice none 0 0)) = #[.slice none 0 0, .slice none 0 0, .slice none 0 0, .slice none 0 0, .slice none 0 0, .slice none 0 0, .slice none 0 0, .slice none 0 0, .slice none 0 0, .slice none 0 0, .slice none 0 0, .slice none 0 0, .slice none 0 0, .slice none 0 0, .slice none 0 0, .slice none 0 0, .slice none 0 0, .slice none 0 0, .slice none 0 0, .slice none 0 0, .slice none 0 0, .slice none 0 0, .slice none 0 0, .slice none 0 0, .slice none 0 0, .slice none 0 0, .slice none 0 0, .slice none 0 0, .slice none 0 0, .slice none 0 0, .slice none 0 0, .slice none 0 0] := rfl
  rw [eR] at M1
  obtain ⟨w2, hw2⟩ : ∃ w2, (w1.alloc (.cells #[.slice none 0 0, .slice none 0 0, .slice none 0 0, .slice none 0 0, .slice none 0 0, .slice none 0 0, .slice none 0 0, .slice none 0 0, .slice none 0 0, .slice none 0 0, .slice none 0 0, .slice none 0 0, .slice none 0 0, .slice none 0 0, .slice none 0 0, .slice none 0 0, .slice none 0 0, .slice none 0 0, .slice none 0 0, .slice none 0 0, .slice none 0 0, .slice none 0 0, .slice none 0 0, .slice none 0 0, .slice none 0 0, .slice none 0 0, .slice none 0 0, .slice none 0 0, .slice none 0 0, .slice none 0 0, .slice none 0 0, .slice none 0 0] 30)).alloc (.cells #[.slice none 0 0, .slice none 0 0, .slice none 0 0, .slice none 0 0, .slice none 0 0, .slice none 0 0, .slice none 0 0, .slice none 0 0, .slice none 0 0, .slice none 0 0, .slice none 0 0, .slice none 0 0, .slice none 0 0, .slice none 0 0, .slice none 0 0, .slice none 0 0, .slice none 0 0, .slice none 0 0, .slice none 0 0, .slice none 0 0, .slice none 0 0, .slice none 0 0, .slice none 0 0, .slice none 0 0, .slice none 0 0, .slice none 0 0, .slice none 0 0, .slice none 0 0, .slice none 0 0, .slice none 0 0, .slice none 0 0, .slice none 0 0] 30) = w2 := ⟨_, rfl⟩
  obtain ⟨a, ha⟩ : ∃ a, w1.heap.size = a := ⟨_, rfl⟩
  rw [hw2, ha] at M1
  rw [hw2, ha]
  clear hw2 ha eR N1 w1
  obtain ⟨b, hb⟩ : ∃ b, a + 1 = b := ⟨_, rfl⟩
  rw [hb] at M1 ⊢
  clear hb
  go_loopw [9] (fun vi wr => ∃ (k : Nat) (L : List Snt) (Q P : Nat → List Int), vi = .int .i64 k ∧ k ≤ n ∧ k ≤ 120 ∧ Hid (MR w wr g mb a b S L Q P) ∧ Hid (PR L Q P k)) (fun vi _ => n - (intOf vi).toNat)
  case atStart => exact ⟨0, [], _, _, rfl, Nat.zero_le _, Nat.zero_le _, M1, hide (PR.nil 0)⟩
  case round =>
    obtain ⟨k, L, Q, P, rfl, hk, hk2, hM, hP⟩ := hrel
    clear M1
    by_cases hgo : k < n ∧ k < 120
    · obtain ⟨ad, kd, t, m, v, s, rfl, hs, e0, e1, e2, e3, e4⟩ := HA.out k hgo.1
      have c0 := hM.out.o.keep0 e0
      have c1 := hM.out.o.keep0 e1
      have c2 := hM.out.o.keep0 e2
      have c3 := hM.out.o.keep0 e3
      have c4 := hM.out.o.keep0 e4
      have j1 : (k : Int) < (n : Int) := by omega
      have j2 : (k : Int) < 120 := by omega
      have j0 : (0 : Int) ≤ (k : Int) := by omega
      have hk1 := hgo.1
      have hk3 := hgo.2
      have bx := Blk.new wr 33 #[.int .i64 kd, .int .i64 t, .int .i64 m, .int .i64 v, .int .u32 s]
      have y0 := bx.cell 0
      have y2 := bx.cell 2
      have y3 := bx.cell 3
      have y4 := bx.cell 4
      have BX := hide bx
      have HLT := hide hM.out.lt
      have M2 := hide (hM.out.step0 ((Only.refl [] wr).alloc (.cells #[.int .i64 kd, .int .i64 t, .int .i64 m, .int .i64 v, .int .u32 s] 33)))
      clear hgo e0 e1 e2 e3 e4 bx
      by_cases hkd : kd = 1
      · subst hkd
        have SD := hide (M2.out.send m v)
        by_cases hsd : sendC 3 S L 1 m = 0 ∧ 16 ≤ m
        · have h31 := (sendC_zero hsd.1).2
          obtain ⟨q, rfl⟩ : ∃ q : Nat, m = q := ⟨m.toNat, by omega⟩
          have T1 := hide (hP.out.send (v := v) hsd.1 hsd.2)
          rw [hsd.1] at SD
          have i2 : (16 : Int) ≤ (q : Int) := hsd.2
          have d1 : decide ((16 : Int) ≤ (q : Int)) = true := decide_eq_true i2
          have d2 : decide (16 ≤ q) = true := decide_eq_true (by omega)
          have i3 : (q : Int) < 32 := by omega
          have i4 : (0 : Int) ≤ (q : Int) := by omega
          have hq1 : 16 ≤ q := by omega
          have hq2 : q < 32 := by omega
          have HQL := hide (hP.out.qlen hq1 hq2)
          clear hsd h31
          go_wp2_with (first
            | (go_at_call 10; (with_reducible refine SD.out.mono ?_); rintro e w3 ⟨rfl, M3, o3⟩; have B3 := BX.out.only o3 (by have := HLT.out; simp; omega); have z2 := B3.cell 2; have z3 := B3.cell 3; have M3 := hide M3; have B3 := hide B3; have O3 := hide o3; clear o3)
            | (go_at_call 9; refine (num_any _ _).mono ?_; rintro e w' ⟨rfl, hw⟩; obtain rfl := hw.symm; clear hw))
          obtain ⟨A, ca, g', c', w4, q1, q2, q3, o4, f4, M4⟩ := (M3.out.step0 (Only.refl [] w3).drew).pushQ hq2 v (by have := HQL.out; omega)
          have q3 : (AppH #[29, 29] 29 #[.slice A (Q q).length ca, .slice (some ⟨w3.heap.size, 0, none⟩) 1 1]).run Try.prog (w3.alloc (.cells #[.int .i64 v] 2)).drew = .ok (.slice (some ⟨g', 0, none⟩) ((Q q).length + 1) c') w4 := q3
          have hqa : a ∉ blkOf A := fun hx => by have := (own_ge q2 _ hx).1; have := M3.out.lt; omega
          have HQX := hide (show wr.heap.size ∉ a :: blkOf A from fun hx => by
            rcases List.mem_cons.1 hx with e | hx
            · have := HLT.out; omega
            · exact own_ne q2 (B3.out.drew) (by decide) hx)
          have CX := hide (fun V (o : Only (a :: blkOf A) w3 V) => show V.cell? ⟨wr.heap.size, 2, none⟩ = some (.int .i64 (q : Int)) ∧ V.cell? ⟨wr.heap.size, 3, none⟩ = some (.int .i64 v) from ⟨((B3.out.only o HQX.out).cell 2).trans rfl, ((B3.out.only o HQX.out).cell 3).trans rfl⟩)
          have q1b : (w3.alloc (.cells #[.int .i64 v] 2)).drew.cell? ⟨a, q, none⟩ = some (.slice A (Q q).length ca) := ((Only.refl [] w3).alloc _).drew.keep0 q1
          have OS2 := hide (show Only (a :: blkOf A) w3 w4 from ((Only.refl [] w3).drew.mono (by simp)).trans (o4.mono (T := a :: blkOf A) (fun x hx => .inl (List.mem_cons_of_mem _ hx))) (fun x hx => .inl hx))
          have OS3 := hide (OS2.out.setCell (p := ⟨a, q, none⟩) (.inl (by simp)) (.slice (some ⟨g', 0, none⟩) ((Q q).length + 1) c'))
          have OS1 := hide (show Only (a :: blkOf A) w3 (w3.alloc (.cells #[.int .i64 v] 2)).drew from ((Only.refl _ w3).alloc _).drew)
          have M4 := hide M4
          have f5 : w4.cell? ⟨a, q, none⟩ = some (.slice A (Q q).length ca) := o4.keep q1 hqa
          clear o4 q2 hqa
          refine wp_region_held_drew (S := (fun V => Only (a :: blkOf A) w3 V)) (by kernel_rfl) ((Only.refl _ w3).drew) (fun hHeld => ?_)
          refine wpAnyH_take (i := 0) (oi := ⟨some 59, _, _, _, _, _⟩) (v := ?va1) rfl (by kernel_rfl) (by kernel_rfl) (by kernel_rfl) (fun _ _ _ h => h) (Or.inl ⟨by rfl, ?hya1⟩) (by assumption) ?resta1
          case hya1 => (intro V hSw; (try dsimp only at hSw); go_simp; first | done | (with_reducible rfl))
          try simp only [Act.put, List.setIfInBounds_toArray, List.set_cons_zero, List.set_cons_succ]
          refine wpAnyH_take (i := 1) (oi := ⟨some 60, _, _, _, _, _⟩) (v := ?va2) rfl (by kernel_rfl) (by kernel_rfl) (by kernel_rfl) (fun _ _ _ h => h) (Or.inl ⟨by rfl, ?hya2⟩) (by assumption) ?resta2
          case hya2 => (intro V hSw; (try dsimp only at hSw); obtain ⟨z, zz⟩ := CX.out V hSw; go_simp; first | done | (with_reducible rfl))
          try simp only [Act.put, List.setIfInBounds_toArray, List.set_cons_zero, List.set_cons_succ]
          refine wpAnyH_take (i := 2) (oi := ⟨some 61, _, _, _, _, _⟩) (v := ?va3) rfl (by kernel_rfl) (by kernel_rfl) (by kernel_rfl) (fun _ _ _ h => h) (Or.inl ⟨by rfl, ?hya3⟩) (by assumption) ?resta3
          case hya3 => (intro V hSw; (try dsimp only at hSw); go_simp; first | done | (with_reducible rfl))
          try simp only [Act.put, List.setIfInBounds_toArray, List.set_cons_zero, List.set_cons_succ]
          refine wpAnyH_take (i := 3) (oi := ⟨some 62, _, _, _, _, _⟩) (v := ?va4) rfl (by kernel_rfl) (by kernel_rfl) (by kernel_rfl) (fun _ _ _ h => h) (Or.inl ⟨by rfl, ?hya4⟩) (by assumption) ?resta4
          case hya4 => (intro V hSw; (try dsimp only at hSw); obtain ⟨z, zz⟩ := CX.out V hSw; go_simp; first | done | (with_reducible rfl))
          try simp only [Act.put, List.setIfInBounds_toArray, List.set_cons_zero, List.set_cons_succ]
          refine wpAnyH_take (i := 4) (oi := ⟨some 63, _, _, _, _, _⟩) (v := ?va5) rfl (by kernel_rfl) (by kernel_rfl) (by kernel_rfl) (fun _ _ _ h => h) (Or.inl ⟨by rfl, ?hya5⟩) (by assumption) ?resta5
          case hya5 => (intro V hSw; (try dsimp only at hSw); go_simp; first | done | (with_reducible rfl))
          try simp only [Act.put, List.setIfInBounds_toArray, List.set_cons_zero, List.set_cons_succ]
          refine wpAnyH_take (i := 6) (oi := ⟨some 65, _, _, _, _, _⟩) (v := ?va6) rfl (by kernel_rfl) (by kernel_rfl) (by kernel_rfl) (fun _ _ _ h => h) (Or.inl ⟨by rfl, ?hya6⟩) (by assumption) ?resta6
          case hya6 => (intro V hSw; (try dsimp only at hSw); go_simp; first | done | (with_reducible rfl))
          try simp only [Act.put, List.setIfInBounds_toArray, List.set_cons_zero, List.set_cons_succ]
          refine wpAnyH_take (i := 7) (oi := ⟨some 66, _, _, _, _, _⟩) (v := ?va7) rfl (by kernel_rfl) (by kernel_rfl) (by kernel_rfl) (fun _ _ _ h => h) (Or.inl ⟨by rfl, ?hya7⟩) (by assumption) ?resta7
          case hya7 => (intro V hSw; (try dsimp only at hSw); obtain ⟨z, zz⟩ := CX.out V hSw; go_simp; first | done | (with_reducible rfl))
          try simp only [Act.put, List.setIfInBounds_toArray, List.set_cons_zero, List.set_cons_succ]
          refine wpAnyH_ready (rs := [5, 8]) (by kernel_rfl) (by simp) ?_
          refine AllReadyH.cons (o := ⟨some 64, _, _, _, _, _⟩) rfl (fun K hK => ?_) (AllReadyH.cons (o := ⟨some 67, _, _, _, _, _⟩) rfl (fun K hK => ?_) (AllReadyH.nil))
          · skip
            rw [if_pos (by rfl)]
            go_simp
            try dsimp only
            refine hK.out _ _ (hHeld) (fun hHeld => ?_)
            clear hK K
            try simp only [Act.put, List.setIfInBounds_toArray, List.set_cons_zero, List.set_cons_succ]
            refine wpAnyH_ready (rs := [8]) (by kernel_rfl) (by simp) ?_
            refine AllReadyH.cons (o := ⟨some 67, _, _, _, _, _⟩) rfl (fun K hK => ?_) (AllReadyH.nil)
            rw [if_pos (by rfl)]
            go_simp
            try dsimp only
            refine hK.out _ _ (OS1.out) (fun hHeld => ?_)
            clear hK K
            try simp only [Act.put, List.setIfInBounds_toArray, List.set_cons_zero, List.set_cons_succ]
            refine wpAnyH_ready (rs := [9]) (by kernel_rfl) (by simp) ?_
            refine AllReadyH.cons (o := ⟨some 68, _, _, _, _, _⟩) rfl (fun K hK => ?_) (AllReadyH.nil)
            rw [if_pos (by rfl)]
            go_simp
            try dsimp only
            refine hK.out _ _ (OS2.out) (fun hHeld => ?_)
            clear hK K
            try simp only [Act.put, List.setIfInBounds_toArray, List.set_cons_zero, List.set_cons_succ]
            refine wpAnyH_take (i := 10) (oi := ⟨some 69, _, _, _, _, _⟩) (v := ?va8) rfl (by kernel_rfl) (by kernel_rfl) (by kernel_rfl) (fun _ _ _ h => h) (Or.inl ⟨by rfl, ?hya8⟩) (by assumption) ?resta8
            case hya8 => (intro V hSw; (try dsimp only at hSw); go_simp; first | done | (with_reducible rfl))
            try simp only [Act.put, List.setIfInBounds_toArray, List.set_cons_zero, List.set_cons_succ]
            refine wpAnyH_ready (rs := [11]) (by kernel_rfl) (by simp) ?_
            refine AllReadyH.cons (o := ⟨none, _, _, _, _, _⟩) rfl (fun K hK => ?_) (AllReadyH.nil)
            rw [if_pos (by rfl)]
            go_simp
            try dsimp only
            refine hK.out _ _ (OS3.out) (fun hHeld => ?_)
            clear hK K
            try simp only [Act.put, List.setIfInBounds_toArray, List.set_cons_zero, List.set_cons_succ]
            refine wpAnyH_done (by kernel_rfl) ?_ _
            have T := hide (show ∃ L2 Q2 P2, MR w (w4.setCell ⟨a, q, none⟩ (.slice (some ⟨g', 0, none⟩) ((Q q).length + 1) c')) g mb a b S L2 Q2 P2 ∧ PR L2 Q2 P2 (k + 1) from ⟨_, _, P, M4.out, T1.out⟩)
            obtain ⟨L2, Q2, P2, M5, P5⟩ := T.out
            generalize w4.setCell ⟨a, q, none⟩ (.slice (some ⟨g', 0, none⟩) ((Q q).length + 1) c') = w5 at M5 ⊢
            have M5 := hide M5
            have P5 := hide P5
            have CE := hide (cnt_end M5.out.inv)
            have CS := hide (cnt_start L2)
            clear q1 q1b q3 f4 f5 M4 OS1 OS2 OS3 CX HQX M3 M2 B3 BX T
            go_wp2_with fail
            go_loopw [13, 14] (fun vn vj wq => ∃ j : Nat, 16 ≤ j ∧ j ≤ 32 ∧ vj = .int .i64 j ∧ vn = .int .i64 (cnt L2 j : Nat) ∧ Hid (Only [] w5 wq)) (fun _ vj _ => 32 - (intOf vj).toNat)
            case atStart => exact ⟨16, by omega, by omega, rfl, by rw [CS.out]; rfl, hide (Only.refl _ _)⟩
            case round =>
              obtain ⟨j, hj1, hj2, rfl, rfl, hOq⟩ := hrel
              have M6 := hide (M5.out.step0 hOq.out)
              by_cases hj : j < 32
              · obtain ⟨A1, d1', q1, _⟩ := M6.out.getQ hj
                obtain ⟨A2, d2', q2, _⟩ := M6.out.getP hj
                have l1 := P5.out.qlen hj1 hj
                have l2 := P5.out.plen hj
                have l3 := P5.out.step hj1 hj
                have l4 : cnt L2 j ≤ 200 := by
                  have := List.countP_le_length (p := fun x : Snt => decide (16 ≤ x.n) && decide (x.n < j)) (l := L2)
                  have := P5.out.b 0 (by omega)
                  unfold cnt
                  omega
                obtain ⟨c1, hc1⟩ : ∃ c1, cnt L2 j = c1 := ⟨_, rfl⟩
                obtain ⟨c2, hc2⟩ : ∃ c2, cnt L2 (j + 1) = c2 := ⟨_, rfl⟩
                obtain ⟨p1, hp1⟩ : ∃ p1, (Q2 j).length = p1 := ⟨_, rfl⟩
                obtain ⟨p2, hp2⟩ : ∃ p2, (P2 j).length = p2 := ⟨_, rfl⟩
                rw [hc1, hc2, hp1, hp2] at l3
                rw [hc1] at l4
                rw [hp1] at q1 l1
                rw [hp2] at q2 l2
                rw [hc1]
                have HC2 := hide hc2
                have e1 : IntKind.i64.wrap ((c1 : Int) + (p1 : Int)) = (c1 : Int) + (p1 : Int) := IntWalk.i64_in _ (by omega)
                have e2 : IntKind.i64.wrap ((c1 : Int) + (p1 : Int) - (p2 : Int)) = (c2 : Int) := by rw [IntWalk.i64_in _ (by omega)]; omega
                have e3 : (c1 : Int) + (p1 : Int) - (p2 : Int) = (c2 : Int) := by omega
                have i5 : (j : Int) < 32 := by omega
                have i6 : (0 : Int) ≤ (j : Int) := by omega
                clear hc1 hc2 hp1 hp2 l3 M6
                go_wp2_with fail
                go_quiet (fail)
                go_wp2_with fail
                go_roundw
                case rel => exact ⟨j + 1, by omega, by omega, by go_num, by rw [HC2.out], hide (hOq.out.drewN _)⟩
                case measure => simp [intOf]; omega
              · obtain rfl : j = 32 := by omega
                rw [CE.out]
                have US := hide M6.out.used
                have l5 := M6.out.inv.used
                obtain ⟨u, hu⟩ : ∃ u, usedOf L2 = u := ⟨_, rfl⟩
                rw [hu] at US l5 ⊢
                have x1 : decide ((S : Int) < (u : Int)) = false := decide_eq_false (by omega)
                have x2 : decide (S < u) = false := decide_eq_false (by omega)
                clear hu
                go_wp2_with (go_at_call 12; (with_reducible refine US.out.mono ?_); rintro e w6 ⟨rfl, hw⟩; obtain rfl := hw.symm; clear hw)
                go_roundw
                case rel => exact ⟨k + 1, L2, Q2, P2, by go_num, by omega, by omega, M6, P5⟩
                case measure => simp [intOf]; omega
          · skip
            rw [if_pos (by rfl)]
            go_simp
            try dsimp only
            refine hK.out _ _ (OS1.out) (fun hHeld => ?_)
            clear hK K
            try simp only [Act.put, List.setIfInBounds_toArray, List.set_cons_zero, List.set_cons_succ]
            refine wpAnyH_ready (rs := [5]) (by kernel_rfl) (by simp) ?_
            refine AllReadyH.cons (o := ⟨some 64, _, _, _, _, _⟩) rfl (fun K hK => ?_) (AllReadyH.nil)
            rw [if_pos (by rfl)]
            go_simp
            try dsimp only
            refine hK.out _ _ (hHeld) (fun hHeld => ?_)
            clear hK K
            try simp only [Act.put, List.setIfInBounds_toArray, List.set_cons_zero, List.set_cons_succ]
            refine wpAnyH_ready (rs := [9]) (by kernel_rfl) (by simp) ?_
            refine AllReadyH.cons (o := ⟨some 68, _, _, _, _, _⟩) rfl (fun K hK => ?_) (AllReadyH.nil)
            rw [if_pos (by rfl)]
            go_simp
            try dsimp only
            refine hK.out _ _ (OS2.out) (fun hHeld => ?_)
            clear hK K
            try simp only [Act.put, List.setIfInBounds_toArray, List.set_cons_zero, List.set_cons_succ]
            refine wpAnyH_take (i := 10) (oi := ⟨some 69, _, _, _, _, _⟩) (v := ?va9) rfl (by kernel_rfl) (by kernel_rfl) (by kernel_rfl) (fun _ _ _ h => h) (Or.inl ⟨by rfl, ?hya9⟩) (by assumption) ?resta9
            case hya9 => (intro V hSw; (try dsimp only at hSw); go_simp; first | done | (with_reducible rfl))
            try simp only [Act.put, List.setIfInBounds_toArray, List.set_cons_zero, List.set_cons_succ]
            refine wpAnyH_ready (rs := [11]) (by kernel_rfl) (by simp) ?_
            refine AllReadyH.cons (o := ⟨none, _, _, _, _, _⟩) rfl (fun K hK => ?_) (AllReadyH.nil)
            rw [if_pos (by rfl)]
            go_simp
            try dsimp only
            refine hK.out _ _ (OS3.out) (fun hHeld => ?_)
            clear hK K
            try simp only [Act.put, List.setIfInBounds_toArray, List.set_cons_zero, List.set_cons_succ]
            refine wpAnyH_done (by kernel_rfl) ?_ _
            have T := hide (show ∃ L2 Q2 P2, MR w (w4.setCell ⟨a, q, none⟩ (.slice (some ⟨g', 0, none⟩) ((Q q).length + 1) c')) g mb a b S L2 Q2 P2 ∧ PR L2 Q2 P2 (k + 1) from ⟨_, _, P, M4.out, T1.out⟩)
            obtain ⟨L2, Q2, P2, M5, P5⟩ := T.out
            generalize w4.setCell ⟨a, q, none⟩ (.slice (some ⟨g', 0, none⟩) ((Q q).length + 1) c') = w5 at M5 ⊢
            have M5 := hide M5
            have P5 := hide P5
            have CE := hide (cnt_end M5.out.inv)
            have CS := hide (cnt_start L2)
            clear q1 q1b q3 f4 f5 M4 OS1 OS2 OS3 CX HQX M3 M2 B3 BX T
            go_wp2_with fail
            go_loopw [13, 14] (fun vn vj wq => ∃ j : Nat, 16 ≤ j ∧ j ≤ 32 ∧ vj = .int .i64 j ∧ vn = .int .i64 (cnt L2 j : Nat) ∧ Hid (Only [] w5 wq)) (fun _ vj _ => 32 - (intOf vj).toNat)
            case atStart => exact ⟨16, by omega, by omega, rfl, by rw [CS.out]; rfl, hide (Only.refl _ _)⟩
            case round =>
              obtain ⟨j, hj1, hj2, rfl, rfl, hOq⟩ := hrel
              have M6 := hide (M5.out.step0 hOq.out)
              by_cases hj : j < 32
              · obtain ⟨A1, d1', q1, _⟩ := M6.out.getQ hj
                obtain ⟨A2, d2', q2, _⟩ := M6.out.getP hj
                have l1 := P5.out.qlen hj1 hj
                have l2 := P5.out.plen hj
                have l3 := P5.out.step hj1 hj
                have l4 : cnt L2 j ≤ 200 := by
                  have := List.countP_le_length (p := fun x : Snt => decide (16 ≤ x.n) && decide (x.n < j)) (l := L2)
                  have := P5.out.b 0 (by omega)
                  unfold cnt
                  omega
                obtain ⟨c1, hc1⟩ : ∃ c1, cnt L2 j = c1 := ⟨_, rfl⟩
                obtain ⟨c2, hc2⟩ : ∃ c2, cnt L2 (j + 1) = c2 := ⟨_, rfl⟩
                obtain ⟨p1, hp1⟩ : ∃ p1, (Q2 j).length = p1 := ⟨_, rfl⟩
                obtain ⟨p2, hp2⟩ : ∃ p2, (P2 j).length = p2 := ⟨_, rfl⟩
                rw [hc1, hc2, hp1, hp2] at l3
                rw [hc1] at l4
                rw [hp1] at q1 l1
                rw [hp2] at q2 l2
                rw [hc1]
                have HC2 := hide hc2
                have e1 : IntKind.i64.wrap ((c1 : Int) + (p1 : Int)) = (c1 : Int) + (p1 : Int) := IntWalk.i64_in _ (by omega)
                have e2 : IntKind.i64.wrap ((c1 : Int) + (p1 : Int) - (p2 : Int)) = (c2 : Int) := by rw [IntWalk.i64_in _ (by omega)]; omega
                have e3 : (c1 : Int) + (p1 : Int) - (p2 : Int) = (c2 : Int) := by omega
                have i5 : (j : Int) < 32 := by omega
                have i6 : (0 : Int) ≤ (j : Int) := by omega
                clear hc1 hc2 hp1 hp2 l3 M6
                go_wp2_with fail
                go_quiet (fail)
                go_wp2_with fail
                go_roundw
                case rel => exact ⟨j + 1, by omega, by omega, by go_num, by rw [HC2.out], hide (hOq.out.drewN _)⟩
                case measure => simp [intOf]; omega
              · obtain rfl : j = 32 := by omega
                rw [CE.out]
                have US := hide M6.out.used
                have l5 := M6.out.inv.used
                obtain ⟨u, hu⟩ : ∃ u, usedOf L2 = u := ⟨_, rfl⟩
                rw [hu] at US l5 ⊢
                have x1 : decide ((S : Int) < (u : Int)) = false := decide_eq_false (by omega)
                have x2 : decide (S < u) = false := decide_eq_false (by omega)
                clear hu
                go_wp2_with (go_at_call 12; (with_reducible refine US.out.mono ?_); rintro e w6 ⟨rfl, hw⟩; obtain rfl := hw.symm; clear hw)
                go_roundw
                case rel => exact ⟨k + 1, L2, Q2, P2, by go_num, by omega, by omega, M6, P5⟩
                case measure => simp [intOf]; omega
        · have T1 := hide (hP.out.sendN (v := v) hsd)
          rcases sendC_cases (S := S) (L := L) m with hc | hc | hc
          · have hm16 : m < 16 := by omega
            have d1 : decide ((16 : Int) ≤ m) = false := decide_eq_false (by omega)
            rw [hc] at SD
            clear hsd hc
            go_wp2_with (first
              | (go_at_call 10; (with_reducible refine SD.out.mono ?_); rintro e w3 ⟨rfl, M3, o3⟩; have B3 := BX.out.only o3 (by have := HLT.out; simp; omega); have z2 := B3.cell 2; have M3 := hide M3; clear o3 B3)
              | (go_at_call 9; refine (num_any _ _).mono ?_; rintro e w' ⟨rfl, hw⟩; obtain rfl := hw.symm; clear hw))
            have T := hide (show ∃ L2 Q2 P2, MR w w3 g mb a b S L2 Q2 P2 ∧ PR L2 Q2 P2 (k + 1) from ⟨_, Q, P, M3.out, T1.out⟩)
            obtain ⟨L2, Q2, P2, M5, P5⟩ := T.out
            generalize w3 = w5 at M5 ⊢
            have M5 := hide M5
            have P5 := hide P5
            have CE := hide (cnt_end M5.out.inv)
            have CS := hide (cnt_start L2)
            clear z2 M3 M2 BX T
            go_loopw [13, 14] (fun vn vj wq => ∃ j : Nat, 16 ≤ j ∧ j ≤ 32 ∧ vj = .int .i64 j ∧ vn = .int .i64 (cnt L2 j : Nat) ∧ Hid (Only [] w5 wq)) (fun _ vj _ => 32 - (intOf vj).toNat)
            case atStart => exact ⟨16, by omega, by omega, rfl, by rw [CS.out]; rfl, hide (Only.refl _ _)⟩
            case round =>
              obtain ⟨j, hj1, hj2, rfl, rfl, hOq⟩ := hrel
              have M6 := hide (M5.out.step0 hOq.out)
              by_cases hj : j < 32
              · obtain ⟨A1, d1', q1, _⟩ := M6.out.getQ hj
                obtain ⟨A2, d2', q2, _⟩ := M6.out.getP hj
                have l1 := P5.out.qlen hj1 hj
                have l2 := P5.out.plen hj
                have l3 := P5.out.step hj1 hj
                have l4 : cnt L2 j ≤ 200 := by
                  have := List.countP_le_length (p := fun x : Snt => decide (16 ≤ x.n) && decide (x.n < j)) (l := L2)
                  have := P5.out.b 0 (by omega)
                  unfold cnt
                  omega
                obtain ⟨c1, hc1⟩ : ∃ c1, cnt L2 j = c1 := ⟨_, rfl⟩
                obtain ⟨c2, hc2⟩ : ∃ c2, cnt L2 (j + 1) = c2 := ⟨_, rfl⟩
                obtain ⟨p1, hp1⟩ : ∃ p1, (Q2 j).length = p1 := ⟨_, rfl⟩
                obtain ⟨p2, hp2⟩ : ∃ p2, (P2 j).length = p2 := ⟨_, rfl⟩
                rw [hc1, hc2, hp1, hp2] at l3
                rw [hc1] at l4
                rw [hp1] at q1 l1
                rw [hp2] at q2 l2
                rw [hc1]
                have HC2 := hide hc2
                have e1 : IntKind.i64.wrap ((c1 : Int) + (p1 : Int)) = (c1 : Int) + (p1 : Int) := IntWalk.i64_in _ (by omega)
                have e2 : IntKind.i64.wrap ((c1 : Int) + (p1 : Int) - (p2 : Int)) = (c2 : Int) := by rw [IntWalk.i64_in _ (by omega)]; omega
                have e3 : (c1 : Int) + (p1 : Int) - (p2 : Int) = (c2 : Int) := by omega
                have i5 : (j : Int) < 32 := by omega
                have i6 : (0 : Int) ≤ (j : Int) := by omega
                clear hc1 hc2 hp1 hp2 l3 M6
                go_wp2_with fail
                go_quiet (fail)
                go_wp2_with fail
                go_roundw
                case rel => exact ⟨j + 1, by omega, by omega, by go_num, by rw [HC2.out], hide (hOq.out.drewN _)⟩
                case measure => simp [intOf]; omega
              · obtain rfl : j = 32 := by omega
                rw [CE.out]
                have US := hide M6.out.used
                have l5 := M6.out.inv.used
                obtain ⟨u, hu⟩ : ∃ u, usedOf L2 = u := ⟨_, rfl⟩
                rw [hu] at US l5 ⊢
                have x1 : decide ((S : Int) < (u : Int)) = false := decide_eq_false (by omega)
                have x2 : decide (S < u) = false := decide_eq_false (by omega)
                clear hu
                go_wp2_with (go_at_call 12; (with_reducible refine US.out.mono ?_); rintro e w6 ⟨rfl, hw⟩; obtain rfl := hw.symm; clear hw)
                go_roundw
                case rel => exact ⟨k + 1, L2, Q2, P2, by go_num, by omega, by omega, M6, P5⟩
                case measure => simp [intOf]; omega
          · rw [hc] at SD
            clear hsd hc
            go_wp2_with (first
              | (go_at_call 10; (with_reducible refine SD.out.mono ?_); rintro e w3 ⟨rfl, M3, o3⟩; have B3 := BX.out.only o3 (by have := HLT.out; simp; omega); have z2 := B3.cell 2; have M3 := hide M3; clear o3 B3)
              | (go_at_call 9; refine (num_any _ _).mono ?_; rintro e w' ⟨rfl, hw⟩; obtain rfl := hw.symm; clear hw))
            have T := hide (show ∃ L2 Q2 P2, MR w w3 g mb a b S L2 Q2 P2 ∧ PR L2 Q2 P2 (k + 1) from ⟨_, Q, P, M3.out, T1.out⟩)
            obtain ⟨L2, Q2, P2, M5, P5⟩ := T.out
            generalize w3 = w5 at M5 ⊢
            have M5 := hide M5
            have P5 := hide P5
            have CE := hide (cnt_end M5.out.inv)
            have CS := hide (cnt_start L2)
            clear z2 M3 M2 BX T
            go_loopw [13, 14] (fun vn vj wq => ∃ j : Nat, 16 ≤ j ∧ j ≤ 32 ∧ vj = .int .i64 j ∧ vn = .int .i64 (cnt L2 j : Nat) ∧ Hid (Only [] w5 wq)) (fun _ vj _ => 32 - (intOf vj).toNat)
            case atStart => exact ⟨16, by omega, by omega, rfl, by rw [CS.out]; rfl, hide (Only.refl _ _)⟩
            case round =>
              obtain ⟨j, hj1, hj2, rfl, rfl, hOq⟩ := hrel
              have M6 := hide (M5.out.step0 hOq.out)
              by_cases hj : j < 32
              · obtain ⟨A1, d1', q1, _⟩ := M6.out.getQ hj
                obtain ⟨A2, d2', q2, _⟩ := M6.out.getP hj
                have l1 := P5.out.qlen hj1 hj
                have l2 := P5.out.plen hj
                have l3 := P5.out.step hj1 hj
                have l4 : cnt L2 j ≤ 200 := by
                  have := List.countP_le_length (p := fun x : Snt => decide (16 ≤ x.n) && decide (x.n < j)) (l := L2)
                  have := P5.out.b 0 (by omega)
                  unfold cnt
                  omega
                obtain ⟨c1, hc1⟩ : ∃ c1, cnt L2 j = c1 := ⟨_, rfl⟩
                obtain ⟨c2, hc2⟩ : ∃ c2, cnt L2 (j + 1) = c2 := ⟨_, rfl⟩
                obtain ⟨p1, hp1⟩ : ∃ p1, (Q2 j).length = p1 := ⟨_, rfl⟩
                obtain ⟨p2, hp2⟩ : ∃ p2, (P2 j).length = p2 := ⟨_, rfl⟩
                rw [hc1, hc2, hp1, hp2] at l3
                rw [hc1] at l4
                rw [hp1] at q1 l1
                rw [hp2] at q2 l2
                rw [hc1]
                have HC2 := hide hc2
                have e1 : IntKind.i64.wrap ((c1 : Int) + (p1 : Int)) = (c1 : Int) + (p1 : Int) := IntWalk.i64_in _ (by omega)
                have e2 : IntKind.i64.wrap ((c1 : Int) + (p1 : Int) - (p2 : Int)) = (c2 : Int) := by rw [IntWalk.i64_in _ (by omega)]; omega
                have e3 : (c1 : Int) + (p1 : Int) - (p2 : Int) = (c2 : Int) := by omega
                have i5 : (j : Int) < 32 := by omega
                have i6 : (0 : Int) ≤ (j : Int) := by omega
                clear hc1 hc2 hp1 hp2 l3 M6
                go_wp2_with fail
                go_quiet (fail)
                go_wp2_with fail
                go_roundw
                case rel => exact ⟨j + 1, by omega, by omega, by go_num, by rw [HC2.out], hide (hOq.out.drewN _)⟩
                case measure => simp [intOf]; omega
              · obtain rfl : j = 32 := by omega
                rw [CE.out]
                have US := hide M6.out.used
                have l5 := M6.out.inv.used
                obtain ⟨u, hu⟩ : ∃ u, usedOf L2 = u := ⟨_, rfl⟩
                rw [hu] at US l5 ⊢
                have x1 : decide ((S : Int) < (u : Int)) = false := decide_eq_false (by omega)
                have x2 : decide (S < u) = false := decide_eq_false (by omega)
                clear hu
                go_wp2_with (go_at_call 12; (with_reducible refine US.out.mono ?_); rintro e w6 ⟨rfl, hw⟩; obtain rfl := hw.symm; clear hw)
                go_roundw
                case rel => exact ⟨k + 1, L2, Q2, P2, by go_num, by omega, by omega, M6, P5⟩
                case measure => simp [intOf]; omega
          · rw [hc] at SD
            clear hsd hc
            go_wp2_with (first
              | (go_at_call 10; (with_reducible refine SD.out.mono ?_); rintro e w3 ⟨rfl, M3, o3⟩; have B3 := BX.out.only o3 (by have := HLT.out; simp; omega); have z2 := B3.cell 2; have M3 := hide M3; clear o3 B3)
              | (go_at_call 9; refine (num_any _ _).mono ?_; rintro e w' ⟨rfl, hw⟩; obtain rfl := hw.symm; clear hw))
            have T := hide (show ∃ L2 Q2 P2, MR w w3 g mb a b S L2 Q2 P2 ∧ PR L2 Q2 P2 (k + 1) from ⟨_, Q, P, M3.out, T1.out⟩)
            obtain ⟨L2, Q2, P2, M5, P5⟩ := T.out
            generalize w3 = w5 at M5 ⊢
            have M5 := hide M5
            have P5 := hide P5
            have CE := hide (cnt_end M5.out.inv)
            have CS := hide (cnt_start L2)
            clear z2 M3 M2 BX T
            go_loopw [13, 14] (fun vn vj wq => ∃ j : Nat, 16 ≤ j ∧ j ≤ 32 ∧ vj = .int .i64 j ∧ vn = .int .i64 (cnt L2 j : Nat) ∧ Hid (Only [] w5 wq)) (fun _ vj _ => 32 - (intOf vj).toNat)
            case atStart => exact ⟨16, by omega, by omega, rfl, by rw [CS.out]; rfl, hide (Only.refl _ _)⟩
            case round =>
              obtain ⟨j, hj1, hj2, rfl, rfl, hOq⟩ := hrel
              have M6 := hide (M5.out.step0 hOq.out)
              by_cases hj : j < 32
              · obtain ⟨A1, d1', q1, _⟩ := M6.out.getQ hj
                obtain ⟨A2, d2', q2, _⟩ := M6.out.getP hj
                have l1 := P5.out.qlen hj1 hj
                have l2 := P5.out.plen hj
                have l3 := P5.out.step hj1 hj
                have l4 : cnt L2 j ≤ 200 := by
                  have := List.countP_le_length (p := fun x : Snt => decide (16 ≤ x.n) && decide (x.n < j)) (l := L2)
                  have := P5.out.b 0 (by omega)
                  unfold cnt
                  omega
                obtain ⟨c1, hc1⟩ : ∃ c1, cnt L2 j = c1 := ⟨_, rfl⟩
                obtain ⟨c2, hc2⟩ : ∃ c2, cnt L2 (j + 1) = c2 := ⟨_, rfl⟩
                obtain ⟨p1, hp1⟩ : ∃ p1, (Q2 j).length = p1 := ⟨_, rfl⟩
                obtain ⟨p2, hp2⟩ : ∃ p2, (P2 j).length = p2 := ⟨_, rfl⟩
                rw [hc1, hc2, hp1, hp2] at l3
                rw [hc1] at l4
                rw [hp1] at q1 l1
                rw [hp2] at q2 l2
                rw [hc1]
                have HC2 := hide hc2
                have e1 : IntKind.i64.wrap ((c1 : Int) + (p1 : Int)) = (c1 : Int) + (p1 : Int) := IntWalk.i64_in _ (by omega)
                have e2 : IntKind.i64.wrap ((c1 : Int) + (p1 : Int) - (p2 : Int)) = (c2 : Int) := by rw [IntWalk.i64_in _ (by omega)]; omega
                have e3 : (c1 : Int) + (p1 : Int) - (p2 : Int) = (c2 : Int) := by omega
                have i5 : (j : Int) < 32 := by omega
                have i6 : (0 : Int) ≤ (j : Int) := by omega
                clear hc1 hc2 hp1 hp2 l3 M6
                go_wp2_with fail
                go_quiet (fail)
                go_wp2_with fail
                go_roundw
                case rel => exact ⟨j + 1, by omega, by omega, by go_num, by rw [HC2.out], hide (hOq.out.drewN _)⟩
                case measure => simp [intOf]; omega
              · obtain rfl : j = 32 := by omega
                rw [CE.out]
                have US := hide M6.out.used
                have l5 := M6.out.inv.used
                obtain ⟨u, hu⟩ : ∃ u, usedOf L2 = u := ⟨_, rfl⟩
                rw [hu] at US l5 ⊢
                have x1 : decide ((S : Int) < (u : Int)) = false := decide_eq_false (by omega)
                have x2 : decide (S < u) = false := decide_eq_false (by omega)
                clear hu
                go_wp2_with (go_at_call 12; (with_reducible refine US.out.mono ?_); rintro e w6 ⟨rfl, hw⟩; obtain rfl := hw.symm; clear hw)
                go_roundw
                case rel => exact ⟨k + 1, L2, Q2, P2, by go_num, by omega, by omega, M6, P5⟩
                case measure => simp [intOf]; omega
      · have d0 : (kd == 1) = false := by simpa using hkd
        have NX := hide (M2.out.next s hs)
        cases hp : peekI 3 L 1 s with
        | none =>
          rw [hp] at NX
          have T1 := hide ((hP.out.nextN hp).more (by omega : k ≤ k + 1))
          unfold sigV at NX
          clear hp
          go_wp2_with (go_at_call 11; (with_reducible refine NX.out.mono ?_); rintro e w3 ⟨rfl, M3, o3⟩; have M4 := hide (M3.step0 ((Only.refl [] w3).alloc (.cells #[.int .i64 0, .int .i64 0] 36))); clear M3 o3)
          have T := hide (show ∃ L2 Q2 P2, MR w (w3.alloc (.cells #[.int .i64 0, .int .i64 0] 36)) g mb a b S L2 Q2 P2 ∧ PR L2 Q2 P2 (k + 1) from ⟨_, Q, P, M4.out, T1.out⟩)
          obtain ⟨L2, Q2, P2, M5, P5⟩ := T.out
          generalize w3.alloc (.cells #[.int .i64 0, .int .i64 0] 36) = w5 at M5 ⊢
          have M5 := hide M5
          have P5 := hide P5
          have CE := hide (cnt_end M5.out.inv)
          have CS := hide (cnt_start L2)
          clear M4 M2 BX T
          go_loopw [13, 14] (fun vn vj wq => ∃ j : Nat, 16 ≤ j ∧ j ≤ 32 ∧ vj = .int .i64 j ∧ vn = .int .i64 (cnt L2 j : Nat) ∧ Hid (Only [] w5 wq)) (fun _ vj _ => 32 - (intOf vj).toNat)
          case atStart => exact ⟨16, by omega, by omega, rfl, by rw [CS.out]; rfl, hide (Only.refl _ _)⟩
          case round =>
            obtain ⟨j, hj1, hj2, rfl, rfl, hOq⟩ := hrel
            have M6 := hide (M5.out.step0 hOq.out)
            by_cases hj : j < 32
            · obtain ⟨A1, d1', q1, _⟩ := M6.out.getQ hj
              obtain ⟨A2, d2', q2, _⟩ := M6.out.getP hj
              have l1 := P5.out.qlen hj1 hj
              have l2 := P5.out.plen hj
              have l3 := P5.out.step hj1 hj
              have l4 : cnt L2 j ≤ 200 := by
                have := List.countP_le_length (p := fun x : Snt => decide (16 ≤ x.n) && decide (x.n < j)) (l := L2)
                have := P5.out.b 0 (by omega)
                unfold cnt
                omega
              obtain ⟨c1, hc1⟩ : ∃ c1, cnt L2 j = c1 := ⟨_, rfl⟩
              obtain ⟨c2, hc2⟩ : ∃ c2, cnt L2 (j + 1) = c2 := ⟨_, rfl⟩
              obtain ⟨p1, hp1⟩ : ∃ p1, (Q2 j).length = p1 := ⟨_, rfl⟩
              obtain ⟨p2, hp2⟩ : ∃ p2, (P2 j).length = p2 := ⟨_, rfl⟩
              rw [hc1, hc2, hp1, hp2] at l3
              rw [hc1] at l4
              rw [hp1] at q1 l1
              rw [hp2] at q2 l2
              rw [hc1]
              have HC2 := hide hc2
              have e1 : IntKind.i64.wrap ((c1 : Int) + (p1 : Int)) = (c1 : Int) + (p1 : Int) := IntWalk.i64_in _ (by omega)
              have e2 : IntKind.i64.wrap ((c1 : Int) + (p1 : Int) - (p2 : Int)) = (c2 : Int) := by rw [IntWalk.i64_in _ (by omega)]; omega
              have e3 : (c1 : Int) + (p1 : Int) - (p2 : Int) = (c2 : Int) := by omega
              have i5 : (j : Int) < 32 := by omega
              have i6 : (0 : Int) ≤ (j : Int) := by omega
              clear hc1 hc2 hp1 hp2 l3 M6
              go_wp2_with fail
              go_quiet (fail)
              go_wp2_with fail
              go_roundw
              case rel => exact ⟨j + 1, by omega, by omega, by go_num, by rw [HC2.out], hide (hOq.out.drewN _)⟩
              case measure => simp [intOf]; omega
            · obtain rfl : j = 32 := by omega
              rw [CE.out]
              have US := hide M6.out.used
              have l5 := M6.out.inv.used
              obtain ⟨u, hu⟩ : ∃ u, usedOf L2 = u := ⟨_, rfl⟩
              rw [hu] at US l5 ⊢
              have x1 : decide ((S : Int) < (u : Int)) = false := decide_eq_false (by omega)
              have x2 : decide (S < u) = false := decide_eq_false (by omega)
              clear hu
              go_wp2_with (go_at_call 12; (with_reducible refine US.out.mono ?_); rintro e w6 ⟨rfl, hw⟩; obtain rfl := hw.symm; clear hw)
              go_roundw
              case rel => exact ⟨k + 1, L2, Q2, P2, by go_num, by omega, by omega, M6, P5⟩
              case measure => simp [intOf]; omega
        | some qx =>
          obtain ⟨q, x⟩ := qx
          rw [hp] at NX
          obtain ⟨hq1, hq2, hq3, hq4, -⟩ := next_facts hM.out.inv hp
          have HP := hide hp
          unfold sigV at NX
          simp only at NX
          have TK := hide (hP.out.took hM.out.inv hp)
          clear hp
          by_cases hq : q < 16
          · obtain rfl : x = 0 := hq4 hq
            have TL := hide ((hP.out.low hM.out.inv HP.out hq).more (by omega : k ≤ k + 1))
            have bq := fun W : World => (Blk.new W 36 #[.int .i64 (q : Int), .int .i64 0])
            have i1 : ¬ ((q : Int) < 1) := by omega
            have i2 : ¬ (31 < (q : Int)) := by omega
            have i3 : ¬ (16 ≤ (q : Int)) := by omega
            have i4 : (q : Int) < 16 := by omega
            have d1 : decide ((q : Int) < 1) = false := decide_eq_false i1
            have d2 : decide (31 < (q : Int)) = false := decide_eq_false i2
            have d3 : decide (16 ≤ (q : Int)) = false := decide_eq_false i3
            have d4 : decide (q < 16) = true := decide_eq_true hq
            have d5 : decide (16 ≤ q) = false := decide_eq_false (by omega)
            have d6 : decide (31 < q) = false := decide_eq_false (by omega)
            have i5 : (0 : Int) ≤ (q : Int) := by omega
            have hbt := bit_at s q hs
            rw [hq3] at hbt
            simp only [if_true] at hbt
            go_wp2_with (go_at_call 11; (with_reducible refine NX.out.mono ?_); rintro e w3 ⟨rfl, M3, o3⟩; have M4 := hide (M3.step0 ((Only.refl [] w3).alloc (.cells #[.int .i64 (q : Int), .int .i64 0] 36))); have z0 := (bq w3).cell 0; have z1 := (bq w3).cell 1; have B3 := (BX.out.only o3 (by have := HLT.out; simp; omega)).alloc (.cells #[.int .i64 (q : Int), .int .i64 0] 36); have x4 := B3.cell 4; clear M3 o3 B3)
            have T := hide (show ∃ L2 Q2 P2, MR w (w3.alloc (.cells #[.int .i64 (q : Int), .int .i64 0] 36)) g mb a b S L2 Q2 P2 ∧ PR L2 Q2 P2 (k + 1) from ⟨_, Q, P, M4.out, TL.out⟩)
            obtain ⟨L2, Q2, P2, M5, P5⟩ := T.out
            generalize w3.alloc (.cells #[.int .i64 (q : Int), .int .i64 0] 36) = w5 at M5 ⊢
            have M5 := hide M5
            have P5 := hide P5
            have CE := hide (cnt_end M5.out.inv)
            have CS := hide (cnt_start L2)
            clear M4 M2 BX T z0 z1 x4 TL TK HP
            go_loopw [13, 14] (fun vn vj wq => ∃ j : Nat, 16 ≤ j ∧ j ≤ 32 ∧ vj = .int .i64 j ∧ vn = .int .i64 (cnt L2 j : Nat) ∧ Hid (Only [] w5 wq)) (fun _ vj _ => 32 - (intOf vj).toNat)
            case atStart => exact ⟨16, by omega, by omega, rfl, by rw [CS.out]; rfl, hide (Only.refl _ _)⟩
            case round =>
              obtain ⟨j, hj1, hj2, rfl, rfl, hOq⟩ := hrel
              have M6 := hide (M5.out.step0 hOq.out)
              by_cases hj : j < 32
              · obtain ⟨A1, d1', q1, _⟩ := M6.out.getQ hj
                obtain ⟨A2, d2', q2, _⟩ := M6.out.getP hj
                have l1 := P5.out.qlen hj1 hj
                have l2 := P5.out.plen hj
                have l3 := P5.out.step hj1 hj
                have l4 : cnt L2 j ≤ 200 := by
                  have := List.countP_le_length (p := fun x : Snt => decide (16 ≤ x.n) && decide (x.n < j)) (l := L2)
                  have := P5.out.b 0 (by omega)
                  unfold cnt
                  omega
                obtain ⟨c1, hc1⟩ : ∃ c1, cnt L2 j = c1 := ⟨_, rfl⟩
                obtain ⟨c2, hc2⟩ : ∃ c2, cnt L2 (j + 1) = c2 := ⟨_, rfl⟩
                obtain ⟨p1, hp1⟩ : ∃ p1, (Q2 j).length = p1 := ⟨_, rfl⟩
                obtain ⟨p2, hp2⟩ : ∃ p2, (P2 j).length = p2 := ⟨_, rfl⟩
                rw [hc1, hc2, hp1, hp2] at l3
                rw [hc1] at l4
                rw [hp1] at q1 l1
                rw [hp2] at q2 l2
                rw [hc1]
                have HC2 := hide hc2
                have e1 : IntKind.i64.wrap ((c1 : Int) + (p1 : Int)) = (c1 : Int) + (p1 : Int) := IntWalk.i64_in _ (by omega)
                have e2 : IntKind.i64.wrap ((c1 : Int) + (p1 : Int) - (p2 : Int)) = (c2 : Int) := by rw [IntWalk.i64_in _ (by omega)]; omega
                have e3 : (c1 : Int) + (p1 : Int) - (p2 : Int) = (c2 : Int) := by omega
                have i5 : (j : Int) < 32 := by omega
                have i6 : (0 : Int) ≤ (j : Int) := by omega
                clear hc1 hc2 hp1 hp2 l3 M6
                go_wp2_with fail
                go_quiet (fail)
                go_wp2_with fail
                go_roundw
                case rel => exact ⟨j + 1, by omega, by omega, by go_num, by rw [HC2.out], hide (hOq.out.drewN _)⟩
                case measure => simp [intOf]; omega
              · obtain rfl : j = 32 := by omega
                rw [CE.out]
                have US := hide M6.out.used
                have l5 := M6.out.inv.used
                obtain ⟨u, hu⟩ : ∃ u, usedOf L2 = u := ⟨_, rfl⟩
                rw [hu] at US l5 ⊢
                have x1 : decide ((S : Int) < (u : Int)) = false := decide_eq_false (by omega)
                have x2 : decide (S < u) = false := decide_eq_false (by omega)
                clear hu
                go_wp2_with (go_at_call 12; (with_reducible refine US.out.mono ?_); rintro e w6 ⟨rfl, hw⟩; obtain rfl := hw.symm; clear hw)
                go_roundw
                case rel => exact ⟨k + 1, L2, Q2, P2, by go_num, by omega, by omega, M6, P5⟩
                case measure => simp [intOf]; omega
          · have hqq : 16 ≤ q := by omega
            have i1 : ¬ ((q : Int) < 1) := by omega
            have i2 : ¬ (31 < (q : Int)) := by omega
            have i3 : (16 : Int) ≤ (q : Int) := by omega
            have i4 : ¬ ((q : Int) < 16) := by omega
            have d1 : decide ((q : Int) < 1) = false := decide_eq_false i1
            have d2 : decide (31 < (q : Int)) = false := decide_eq_false i2
            have d3 : decide ((16 : Int) ≤ (q : Int)) = true := decide_eq_true i3
            have d4 : decide (q < 16) = false := decide_eq_false (by omega)
            have d5 : decide (16 ≤ q) = true := decide_eq_true hqq
            have d6 : decide (31 < q) = false := decide_eq_false (by omega)
            have i5 : (0 : Int) ≤ (q : Int) := by omega
            have i6 : (q : Int) < 32 := by omega
            have HPL := hide (hP.out.plen hq2)
            have hbt := bit_at s q hs
            rw [hq3] at hbt
            simp only [if_true] at hbt
            go_wp2_with (go_at_call 11; (with_reducible refine NX.out.mono ?_); rintro e w3 ⟨rfl, M3, o3⟩; have M4 := hide (M3.step0 ((Only.refl [] w3).alloc (.cells #[.int .i64 (q : Int), .int .i64 x] 36))); have bq := Blk.new w3 36 #[.int .i64 (q : Int), .int .i64 x]; have z0 := bq.cell 0; have z1 := bq.cell 1; have B3 := (BX.out.only o3 (by have := HLT.out; simp; omega)).alloc (.cells #[.int .i64 (q : Int), .int .i64 x] 36); have x4 := B3.cell 4; have BQ := hide bq; have HSZ := hide (show b < w3.heap.size from M3.lt.2.2.2.1); clear M3 o3 B3 bq)
            obtain ⟨w4, hw4⟩ : ∃ w4, w3.alloc (.cells #[.int .i64 (q : Int), .int .i64 x] 36) = w4 := ⟨_, rfl⟩
            rw [hw4] at M4 z0 z1 BQ ⊢
            obtain ⟨X, hX⟩ : ∃ X, w3.heap.size = X := ⟨_, rfl⟩
            rw [hX] at z0 z1 BQ HSZ ⊢
            clear hw4 hX x4 z0 z1
            obtain ⟨A, ca, g', c', w5, q1, q2, q3, o4, f4, M5⟩ := (M4.out.step0 (Only.refl [] w4).drew).pushP hq2 x (by have := HPL.out; omega)
            have q3 : (AppH #[29, 29] 29 #[.slice A (P q).length ca, .slice (some ⟨w4.heap.size, 0, none⟩) 1 1]).run Try.prog (w4.alloc (.cells #[.int .i64 x] 2)).drew = .ok (.slice (some ⟨g', 0, none⟩) ((P q).length + 1) c') w5 := q3
            have hqb : b ∉ blkOf A := fun hx => by have := (own_ge q2 _ hx).1; omega
            have HQX := hide (show X ∉ b :: blkOf A from fun hx => by
              rcases List.mem_cons.1 hx with e | hx
              · have := HSZ.out; omega
              · exact own_ne q2 (BQ.out.drew) (by decide) hx)
            have CX := hide (fun V (o : Only (b :: blkOf A) w4 V) => show V.cell? ⟨X, 0, none⟩ = some (.int .i64 (q : Int)) ∧ V.cell? ⟨X, 1, none⟩ = some (.int .i64 x) from ⟨((BQ.out.only o HQX.out).cell 0).trans rfl, ((BQ.out.only o HQX.out).cell 1).trans rfl⟩)
            have q1b : (w4.alloc (.cells #[.int .i64 x] 2)).drew.cell? ⟨b, q, none⟩ = some (.slice A (P q).length ca) := ((Only.refl [] w4).alloc _).drew.keep0 q1
            have OS2 := hide (show Only (b :: blkOf A) w4 w5 from ((Only.refl [] w4).drew.mono (by simp)).trans (o4.mono (T := b :: blkOf A) (fun x hx => .inl (List.mem_cons_of_mem _ hx))) (fun x hx => .inl hx))
            have OS3 := hide (OS2.out.setCell (p := ⟨b, q, none⟩) (.inl (by simp)) (.slice (some ⟨g', 0, none⟩) ((P q).length + 1) c'))
            have OS1 := hide (show Only (b :: blkOf A) w4 (w4.alloc (.cells #[.int .i64 x] 2)).drew from ((Only.refl _ w4).alloc _).drew)
            have M5 := hide M5
            have f5 : w5.cell? ⟨b, q, none⟩ = some (.slice A (P q).length ca) := o4.keep q1 hqb
            obtain ⟨zz0, zz1⟩ := CX.out _ OS3.out
            have ZZ0 := hide zz0
            have ZZ1 := hide zz1
            clear o4 q2 hqb zz0 zz1
            refine wp_region_held_drew (S := (fun V => Only (b :: blkOf A) w4 V)) (by kernel_rfl) ((Only.refl _ w4).drew) (fun hHeld => ?_)
            refine wpAnyH_take (i := 0) (oi := ⟨some 103, _, _, _, _, _⟩) (v := ?vc1) rfl (by kernel_rfl) (by kernel_rfl) (by kernel_rfl) (fun _ _ _ h => h) (Or.inl ⟨by rfl, ?hyc1⟩) (by assumption) ?restc1
            case hyc1 => (intro V hSw; (try dsimp only at hSw); go_simp; first | done | (with_reducible rfl))
            try simp only [Act.put, List.setIfInBounds_toArray, List.set_cons_zero, List.set_cons_succ]
            refine wpAnyH_take (i := 1) (oi := ⟨some 104, _, _, _, _, _⟩) (v := ?vc2) rfl (by kernel_rfl) (by kernel_rfl) (by kernel_rfl) (fun _ _ _ h => h) (Or.inl ⟨by rfl, ?hyc2⟩) (by assumption) ?restc2
            case hyc2 => (intro V hSw; (try dsimp only at hSw); obtain ⟨z, zz⟩ := CX.out V hSw; go_simp; first | done | (with_reducible rfl))
            try simp only [Act.put, List.setIfInBounds_toArray, List.set_cons_zero, List.set_cons_succ]
            refine wpAnyH_take (i := 2) (oi := ⟨some 105, _, _, _, _, _⟩) (v := ?vc3) rfl (by kernel_rfl) (by kernel_rfl) (by kernel_rfl) (fun _ _ _ h => h) (Or.inl ⟨by rfl, ?hyc3⟩) (by assumption) ?restc3
            case hyc3 => (intro V hSw; (try dsimp only at hSw); go_simp; first | done | (with_reducible rfl))
            try simp only [Act.put, List.setIfInBounds_toArray, List.set_cons_zero, List.set_cons_succ]
            refine wpAnyH_take (i := 3) (oi := ⟨some 106, _, _, _, _, _⟩) (v := ?vc4) rfl (by kernel_rfl) (by kernel_rfl) (by kernel_rfl) (fun _ _ _ h => h) (Or.inl ⟨by rfl, ?hyc4⟩) (by assumption) ?restc4
            case hyc4 => (intro V hSw; (try dsimp only at hSw); obtain ⟨z, zz⟩ := CX.out V hSw; go_simp; first | done | (with_reducible rfl))
            try simp only [Act.put, List.setIfInBounds_toArray, List.set_cons_zero, List.set_cons_succ]
            refine wpAnyH_take (i := 4) (oi := ⟨some 107, _, _, _, _, _⟩) (v := ?vc5) rfl (by kernel_rfl) (by kernel_rfl) (by kernel_rfl) (fun _ _ _ h => h) (Or.inl ⟨by rfl, ?hyc5⟩) (by assumption) ?restc5
            case hyc5 => (intro V hSw; (try dsimp only at hSw); go_simp; first | done | (with_reducible rfl))
            try simp only [Act.put, List.setIfInBounds_toArray, List.set_cons_zero, List.set_cons_succ]
            refine wpAnyH_take (i := 6) (oi := ⟨some 109, _, _, _, _, _⟩) (v := ?vc6) rfl (by kernel_rfl) (by kernel_rfl) (by kernel_rfl) (fun _ _ _ h => h) (Or.inl ⟨by rfl, ?hyc6⟩) (by assumption) ?restc6
            case hyc6 => (intro V hSw; (try dsimp only at hSw); go_simp; first | done | (with_reducible rfl))
            try simp only [Act.put, List.setIfInBounds_toArray, List.set_cons_zero, List.set_cons_succ]
            refine wpAnyH_take (i := 7) (oi := ⟨some 110, _, _, _, _, _⟩) (v := ?vc7) rfl (by kernel_rfl) (by kernel_rfl) (by kernel_rfl) (fun _ _ _ h => h) (Or.inl ⟨by rfl, ?hyc7⟩) (by assumption) ?restc7
            case hyc7 => (intro V hSw; (try dsimp only at hSw); obtain ⟨z, zz⟩ := CX.out V hSw; go_simp; first | done | (with_reducible rfl))
            try simp only [Act.put, List.setIfInBounds_toArray, List.set_cons_zero, List.set_cons_succ]
            refine wpAnyH_ready (rs := [5, 8]) (by kernel_rfl) (by simp) ?_
            refine AllReadyH.cons (o := ⟨some 108, _, _, _, _, _⟩) rfl (fun K hK => ?_) (AllReadyH.cons (o := ⟨some 111, _, _, _, _, _⟩) rfl (fun K hK => ?_) (AllReadyH.nil))
            · skip
              rw [if_pos (by rfl)]
              go_simp
              try dsimp only
              refine hK.out _ _ (hHeld) (fun hHeld => ?_)
              clear hK K
              try simp only [Act.put, List.setIfInBounds_toArray, List.set_cons_zero, List.set_cons_succ]
              refine wpAnyH_ready (rs := [8]) (by kernel_rfl) (by simp) ?_
              refine AllReadyH.cons (o := ⟨some 111, _, _, _, _, _⟩) rfl (fun K hK => ?_) (AllReadyH.nil)
              rw [if_pos (by rfl)]
              go_simp
              try dsimp only
              refine hK.out _ _ (OS1.out) (fun hHeld => ?_)
              clear hK K
              try simp only [Act.put, List.setIfInBounds_toArray, List.set_cons_zero, List.set_cons_succ]
              refine wpAnyH_ready (rs := [9]) (by kernel_rfl) (by simp) ?_
              refine AllReadyH.cons (o := ⟨some 112, _, _, _, _, _⟩) rfl (fun K hK => ?_) (AllReadyH.nil)
              rw [if_pos (by rfl)]
              go_simp
              try dsimp only
              refine hK.out _ _ (OS2.out) (fun hHeld => ?_)
              clear hK K
              try simp only [Act.put, List.setIfInBounds_toArray, List.set_cons_zero, List.set_cons_succ]
              refine wpAnyH_take (i := 10) (oi := ⟨some 113, _, _, _, _, _⟩) (v := ?vc8) rfl (by kernel_rfl) (by kernel_rfl) (by kernel_rfl) (fun _ _ _ h => h) (Or.inl ⟨by rfl, ?hyc8⟩) (by assumption) ?restc8
              case hyc8 => (intro V hSw; (try dsimp only at hSw); go_simp; first | done | (with_reducible rfl))
              try simp only [Act.put, List.setIfInBounds_toArray, List.set_cons_zero, List.set_cons_succ]
              refine wpAnyH_ready (rs := [11]) (by kernel_rfl) (by simp) ?_
              refine AllReadyH.cons (o := ⟨none, _, _, _, _, _⟩) rfl (fun K hK => ?_) (AllReadyH.nil)
              rw [if_pos (by rfl)]
              go_simp
              try dsimp only
              refine hK.out _ _ (OS3.out) (fun hHeld => ?_)
              clear hK K
              try simp only [Act.put, List.setIfInBounds_toArray, List.set_cons_zero, List.set_cons_succ]
              refine wpAnyH_done (by kernel_rfl) ?_ _
              have T := hide (show ∃ L2 Q2 P2, MR w (w5.setCell ⟨b, q, none⟩ (.slice (some ⟨g', 0, none⟩) ((P q).length + 1) c')) g mb a b S L2 Q2 P2 ∧ PR L2 Q2 P2 (k + 1) from ⟨_, Q, _, M5.out, TK.out.more (by omega)⟩)
              have z6 := ZZ0.out
              obtain ⟨L2, Q2, P2, M5, P5⟩ := T.out
              generalize w5.setCell ⟨b, q, none⟩ (.slice (some ⟨g', 0, none⟩) ((P q).length + 1) c') = w6 at M5 z6 ⊢
              have M5 := hide M5
              have P5 := hide P5
              have CE := hide (cnt_end M5.out.inv)
              have CS := hide (cnt_start L2)
              clear q1 q1b q3 f4 f5 OS1 OS2 OS3 CX HQX M4 M2 BX BQ ZZ0 ZZ1 TK HP T
              go_wp2_with fail
              go_loopw [13, 14] (fun vn vj wq => ∃ j : Nat, 16 ≤ j ∧ j ≤ 32 ∧ vj = .int .i64 j ∧ vn = .int .i64 (cnt L2 j : Nat) ∧ Hid (Only [] w6 wq)) (fun _ vj _ => 32 - (intOf vj).toNat)
              case atStart => exact ⟨16, by omega, by omega, rfl, by rw [CS.out]; rfl, hide (Only.refl _ _)⟩
              case round =>
                obtain ⟨j, hj1, hj2, rfl, rfl, hOq⟩ := hrel
                have M6 := hide (M5.out.step0 hOq.out)
                by_cases hj : j < 32
                · obtain ⟨A1, d1', q1, _⟩ := M6.out.getQ hj
                  obtain ⟨A2, d2', q2, _⟩ := M6.out.getP hj
                  have l1 := P5.out.qlen hj1 hj
                  have l2 := P5.out.plen hj
                  have l3 := P5.out.step hj1 hj
                  have l4 : cnt L2 j ≤ 200 := by
                    have := List.countP_le_length (p := fun x : Snt => decide (16 ≤ x.n) && decide (x.n < j)) (l := L2)
                    have := P5.out.b 0 (by omega)
                    unfold cnt
                    omega
                  obtain ⟨c1, hc1⟩ : ∃ c1, cnt L2 j = c1 := ⟨_, rfl⟩
                  obtain ⟨c2, hc2⟩ : ∃ c2, cnt L2 (j + 1) = c2 := ⟨_, rfl⟩
                  obtain ⟨p1, hp1⟩ : ∃ p1, (Q2 j).length = p1 := ⟨_, rfl⟩
                  obtain ⟨p2, hp2⟩ : ∃ p2, (P2 j).length = p2 := ⟨_, rfl⟩
                  rw [hc1, hc2, hp1, hp2] at l3
                  rw [hc1] at l4
                  rw [hp1] at q1 l1
                  rw [hp2] at q2 l2
                  rw [hc1]
                  have HC2 := hide hc2
                  have e1 : IntKind.i64.wrap ((c1 : Int) + (p1 : Int)) = (c1 : Int) + (p1 : Int) := IntWalk.i64_in _ (by omega)
                  have e2 : IntKind.i64.wrap ((c1 : Int) + (p1 : Int) - (p2 : Int)) = (c2 : Int) := by rw [IntWalk.i64_in _ (by omega)]; omega
                  have e3 : (c1 : Int) + (p1 : Int) - (p2 : Int) = (c2 : Int) := by omega
                  have i5 : (j : Int) < 32 := by omega
                  have i6 : (0 : Int) ≤ (j : Int) := by omega
                  clear hc1 hc2 hp1 hp2 l3 M6
                  go_wp2_with fail
                  go_quiet (fail)
                  go_wp2_with fail
                  go_roundw
                  case rel => exact ⟨j + 1, by omega, by omega, by go_num, by rw [HC2.out], hide (hOq.out.drewN _)⟩
                  case measure => simp [intOf]; omega
                · obtain rfl : j = 32 := by omega
                  rw [CE.out]
                  have US := hide M6.out.used
                  have l5 := M6.out.inv.used
                  obtain ⟨u, hu⟩ : ∃ u, usedOf L2 = u := ⟨_, rfl⟩
                  rw [hu] at US l5 ⊢
                  have x1 : decide ((S : Int) < (u : Int)) = false := decide_eq_false (by omega)
                  have x2 : decide (S < u) = false := decide_eq_false (by omega)
                  clear hu
                  go_wp2_with (go_at_call 12; (with_reducible refine US.out.mono ?_); rintro e w7 ⟨rfl, hw⟩; obtain rfl := hw.symm; clear hw)
                  go_roundw
                  case rel => exact ⟨k + 1, L2, Q2, P2, by go_num, by omega, by omega, M6, P5⟩
                  case measure => simp [intOf]; omega
            · skip
              rw [if_pos (by rfl)]
              go_simp
              try dsimp only
              refine hK.out _ _ (OS1.out) (fun hHeld => ?_)
              clear hK K
              try simp only [Act.put, List.setIfInBounds_toArray, List.set_cons_zero, List.set_cons_succ]
              refine wpAnyH_ready (rs := [5]) (by kernel_rfl) (by simp) ?_
              refine AllReadyH.cons (o := ⟨some 108, _, _, _, _, _⟩) rfl (fun K hK => ?_) (AllReadyH.nil)
              rw [if_pos (by rfl)]
              go_simp
              try dsimp only
              refine hK.out _ _ (hHeld) (fun hHeld => ?_)
              clear hK K
              try simp only [Act.put, List.setIfInBounds_toArray, List.set_cons_zero, List.set_cons_succ]
              refine wpAnyH_ready (rs := [9]) (by kernel_rfl) (by simp) ?_
              refine AllReadyH.cons (o := ⟨some 112, _, _, _, _, _⟩) rfl (fun K hK => ?_) (AllReadyH.nil)
              rw [if_pos (by rfl)]
              go_simp
              try dsimp only
              refine hK.out _ _ (OS2.out) (fun hHeld => ?_)
              clear hK K
              try simp only [Act.put, List.setIfInBounds_toArray, List.set_cons_zero, List.set_cons_succ]
              refine wpAnyH_take (i := 10) (oi := ⟨some 113, _, _, _, _, _⟩) (v := ?vc9) rfl (by kernel_rfl) (by kernel_rfl) (by kernel_rfl) (fun _ _ _ h => h) (Or.inl ⟨by rfl, ?hyc9⟩) (by assumption) ?restc9
              case hyc9 => (intro V hSw; (try dsimp only at hSw); go_simp; first | done | (with_reducible rfl))
              try simp only [Act.put, List.setIfInBounds_toArray, List.set_cons_zero, List.set_cons_succ]
              refine wpAnyH_ready (rs := [11]) (by kernel_rfl) (by simp) ?_
              refine AllReadyH.cons (o := ⟨none, _, _, _, _, _⟩) rfl (fun K hK => ?_) (AllReadyH.nil)
              rw [if_pos (by rfl)]
              go_simp
              try dsimp only
              refine hK.out _ _ (OS3.out) (fun hHeld => ?_)
              clear hK K
              try simp only [Act.put, List.setIfInBounds_toArray, List.set_cons_zero, List.set_cons_succ]
              refine wpAnyH_done (by kernel_rfl) ?_ _
              have T := hide (show ∃ L2 Q2 P2, MR w (w5.setCell ⟨b, q, none⟩ (.slice (some ⟨g', 0, none⟩) ((P q).length + 1) c')) g mb a b S L2 Q2 P2 ∧ PR L2 Q2 P2 (k + 1) from ⟨_, Q, _, M5.out, TK.out.more (by omega)⟩)
              have z6 := ZZ0.out
              obtain ⟨L2, Q2, P2, M5, P5⟩ := T.out
              generalize w5.setCell ⟨b, q, none⟩ (.slice (some ⟨g', 0, none⟩) ((P q).length + 1) c') = w6 at M5 z6 ⊢
              have M5 := hide M5
              have P5 := hide P5
              have CE := hide (cnt_end M5.out.inv)
              have CS := hide (cnt_start L2)
              clear q1 q1b q3 f4 f5 OS1 OS2 OS3 CX HQX M4 M2 BX BQ ZZ0 ZZ1 TK HP T
              go_wp2_with fail
              go_loopw [13, 14] (fun vn vj wq => ∃ j : Nat, 16 ≤ j ∧ j ≤ 32 ∧ vj = .int .i64 j ∧ vn = .int .i64 (cnt L2 j : Nat) ∧ Hid (Only [] w6 wq)) (fun _ vj _ => 32 - (intOf vj).toNat)
              case atStart => exact ⟨16, by omega, by omega, rfl, by rw [CS.out]; rfl, hide (Only.refl _ _)⟩
              case round =>
                obtain ⟨j, hj1, hj2, rfl, rfl, hOq⟩ := hrel
                have M6 := hide (M5.out.step0 hOq.out)
                by_cases hj : j < 32
                · obtain ⟨A1, d1', q1, _⟩ := M6.out.getQ hj
                  obtain ⟨A2, d2', q2, _⟩ := M6.out.getP hj
                  have l1 := P5.out.qlen hj1 hj
                  have l2 := P5.out.plen hj
                  have l3 := P5.out.step hj1 hj
                  have l4 : cnt L2 j ≤ 200 := by
                    have := List.countP_le_length (p := fun x : Snt => decide (16 ≤ x.n) && decide (x.n < j)) (l := L2)
                    have := P5.out.b 0 (by omega)
                    unfold cnt
                    omega
                  obtain ⟨c1, hc1⟩ : ∃ c1, cnt L2 j = c1 := ⟨_, rfl⟩
                  obtain ⟨c2, hc2⟩ : ∃ c2, cnt L2 (j + 1) = c2 := ⟨_, rfl⟩
                  obtain ⟨p1, hp1⟩ : ∃ p1, (Q2 j).length = p1 := ⟨_, rfl⟩
                  obtain ⟨p2, hp2⟩ : ∃ p2, (P2 j).length = p2 := ⟨_, rfl⟩
                  rw [hc1, hc2, hp1, hp2] at l3
                  rw [hc1] at l4
                  rw [hp1] at q1 l1
                  rw [hp2] at q2 l2
                  rw [hc1]
                  have HC2 := hide hc2
                  have e1 : IntKind.i64.wrap ((c1 : Int) + (p1 : Int)) = (c1 : Int) + (p1 : Int) := IntWalk.i64_in _ (by omega)
                  have e2 : IntKind.i64.wrap ((c1 : Int) + (p1 : Int) - (p2 : Int)) = (c2 : Int) := by rw [IntWalk.i64_in _ (by omega)]; omega
                  have e3 : (c1 : Int) + (p1 : Int) - (p2 : Int) = (c2 : Int) := by omega
                  have i5 : (j : Int) < 32 := by omega
                  have i6 : (0 : Int) ≤ (j : Int) := by omega
                  clear hc1 hc2 hp1 hp2 l3 M6
                  go_wp2_with fail
                  go_quiet (fail)
                  go_wp2_with fail
                  go_roundw
                  case rel => exact ⟨j + 1, by omega, by omega, by go_num, by rw [HC2.out], hide (hOq.out.drewN _)⟩
                  case measure => simp [intOf]; omega
                · obtain rfl : j = 32 := by omega
                  rw [CE.out]
                  have US := hide M6.out.used
                  have l5 := M6.out.inv.used
                  obtain ⟨u, hu⟩ : ∃ u, usedOf L2 = u := ⟨_, rfl⟩
                  rw [hu] at US l5 ⊢
                  have x1 : decide ((S : Int) < (u : Int)) = false := decide_eq_false (by omega)
                  have x2 : decide (S < u) = false := decide_eq_false (by omega)
                  clear hu
                  go_wp2_with (go_at_call 12; (with_reducible refine US.out.mono ?_); rintro e w7 ⟨rfl, hw⟩; obtain rfl := hw.symm; clear hw)
                  go_roundw
                  case rel => exact ⟨k + 1, L2, Q2, P2, by go_num, by omega, by omega, M6, P5⟩
                  case measure => simp [intOf]; omega
    · rcases (show ((k : Int) < (n : Int) ∧ ¬ ((k : Int) < 120)) ∨ ¬ ((k : Int) < (n : Int)) from by omega) with ⟨hA1, hA2⟩ | hA1
      · skip
        have P1 := hide (hP.out.more hk2)
        have M1 := hM
        clear hgo hM hP HA
        go_wp2_with fail
        go_loopw [15] (fun vb wr => ∃ (L : List Snt) (P : Nat → List Int), Hid (MR w wr g mb a b S L Q P) ∧ Hid (PR L Q P 120)) (fun _ wr => 6400 - takenAt wr b)
        case atStart => exact ⟨L, P, M1, P1⟩
        case round =>
          clear M1 P1
          obtain ⟨L, P, hM, hP⟩ := hrel
          have NX := hide (show Calls Try.prog 11 #[.pointer (some ⟨g, 0, none⟩), .int .i64 1, .int .u32 4294967295] wr fun e w' => e = .returned (sigV (peekI 3 L 1 4294967295)) ∧ MR w w' g mb a b S (nextL 3 L 1 4294967295) Q P ∧ Only [g, mb] wr w' from hM.out.next 4294967295 (by decide))
          cases hp : peekI 3 L 1 4294967295 with
          | none =>
            rw [hp] at NX
            unfold sigV at NX
            have hd := hP.out.done hM.out.inv hp
            have hL : nextL 3 L 1 4294967295 = [] := by unfold nextL; rw [hp]; exact hd.1
            rw [hL] at NX
            have EQ := hide hd.2
            clear hp hL hd
            go_wp2_with (go_at_call 11; (with_reducible refine NX.out.mono ?_); rintro e w3 ⟨rfl, M3, o3⟩; have M4 := hide (M3.step0 ((Only.refl [] w3).alloc (.cells #[.int .i64 0, .int .i64 0] 36))); clear M3 o3)
            generalize w3.alloc (.cells #[.int .i64 0, .int .i64 0] 36) = w5 at M4 ⊢
            clear NX hM
            go_loopw [17] (fun vk wq => ∃ j : Nat, 16 ≤ j ∧ j ≤ 32 ∧ vk = .int .i64 j ∧ Hid (Only [] w5 wq)) (fun vk _ => 32 - (intOf vk).toNat)
            case atStart => exact ⟨16, by omega, by omega, rfl, hide (Only.refl _ _)⟩
            case round =>
              obtain ⟨j, hj1, hj2, rfl, hOq⟩ := hrel
              have M6 := hide (M4.out.step0 hOq.out)
              by_cases hj : j < 32
              · have eq := EQ.out j hj1 hj
                obtain ⟨A1, d1', q1, r1⟩ := M6.out.getQ hj
                obtain ⟨A2, d2', q2, r2⟩ := M6.out.getP hj
                rw [eq] at q1 r1
                obtain ⟨X, hX⟩ : ∃ X, P j = X := ⟨_, rfl⟩
                rw [hX] at q1 r1 q2 r2
                have HX := hide hX
                have hXl : X.length ≤ 120 := by rw [← hX]; exact hP.out.plen hj
                have R1 := hide r1
                have R2 := hide r2
                have i5 : (j : Int) < 32 := by omega
                have i6 : (0 : Int) ≤ (j : Int) := by omega
                have Q1 := hide q1
                have Q2 := hide q2
                clear eq hX r1 r2
                go_wp2_with fail
                go_quiet (fail)
                go_wp2_with fail
                generalize hwq : World.drewN _ _ = w7
                have OQ := hide (show Only [] w5 w7 from by rw [← hwq]; exact hOq.out.drewN _)
                clear hwq
                have M7 := hide (M4.out.step0 OQ.out)
                clear q1 q2 hOq M6
                go_loopw [18] (fun vi wz => ∃ i : Nat, i ≤ X.length ∧ vi = .int .i64 i ∧ Hid (Only [] w7 wz)) (fun vi _ => X.length - (intOf vi).toNat)
                case atStart => exact ⟨0, by omega, rfl, hide (Only.refl _ _)⟩
                case round =>
                  obtain ⟨i, hi, rfl, hOz⟩ := hrel
                  have o8 := OQ.out.trans0 hOz.out
                  obtain ⟨A1', d1'', q1, r1⟩ := (M4.out.step0 o8).getQ hj
                  obtain ⟨A2', d2'', q2, r2⟩ := (M4.out.step0 o8).getP hj
                  rw [EQ.out j hj1 hj, HX.out] at q1 r1
                  rw [HX.out] at q2 r2
                  have O8 := hide o8
                  clear o8
                  by_cases hi2 : i < X.length
                  · obtain ⟨x, hx⟩ : ∃ x, X[i]? = some x := ⟨_, List.getElem?_eq_getElem hi2⟩
                    obtain ⟨g1, rfl, a0, a1⟩ := r1.cell hx
                    obtain ⟨g2, rfl, b0, b1⟩ := r2.cell hx
                    have j2 : (0 : Int) ≤ (i : Int) := by omega
                    have j3 : (i : Int) < (X.length : Int) := by omega
                    clear hx r1 r2
                    go_wp2_with fail
                    go_quiet (fail)
                    go_wp2_with fail
                    go_roundw
                    case rel => exact ⟨i + 1, by omega, by go_num, hide (hOz.out.drewN _)⟩
                    case measure => simp [intOf]; omega
                  · have j3 : ¬ ((i : Int) < (X.length : Int)) := by omega
                    clear r1 r2
                    go_wp2_with fail
                    go_roundw
                    case rel => exact ⟨j + 1, by omega, by omega, by go_num, O8⟩
                    case measure => simp [intOf]; omega
              · obtain rfl : j = 32 := by omega
                have PD := hide M6.out.pend
                have US := hide M6.out.used
                rw [show pendI [] 3 1 = 0 by decide] at PD
                rw [show usedOf [] = 0 by decide] at US
                have PD := hide (show Calls Try.prog 13 #[.pointer (some ⟨g, 0, none⟩), .int .i64 1] wr fun e w' => e = .returned (.int .u32 0) ∧ w' = wr from PD.out)
                have US := hide (show Calls Try.prog 12 #[.pointer (some ⟨g, 0, none⟩)] wr fun e w' => e = .returned (.int .i64 0) ∧ w' = wr from US.out)
                have OF := hide M6.out.o
                go_wp2_with (first
                  | (go_at_call 13; (with_reducible refine PD.out.mono ?_); rintro e w8 ⟨rfl, hw⟩; obtain rfl := hw.symm; clear hw)
                  | (go_at_call 12; (with_reducible refine US.out.mono ?_); rintro e w8 ⟨rfl, hw⟩; obtain rfl := hw.symm; clear hw))
                go_ret
                exact ⟨rfl, OF.out⟩
          | some qx =>
            obtain ⟨q, x⟩ := qx
            rw [hp] at NX
            obtain ⟨hq1, hq2, hq3, hq4, -⟩ := next_facts hM.out.inv hp
            unfold sigV at NX
            simp only at NX
            have TK := hide (hP.out.took hM.out.inv hp)
            have HPL := hide (hP.out.plen hq2)
            have i1 : ¬ ((q : Int) < 1) := by omega
            have i2 : ¬ (31 < (q : Int)) := by omega
            have d1 : decide ((q : Int) < 1) = false := decide_eq_false i1
            have d2 : decide (31 < (q : Int)) = false := decide_eq_false i2
            have d6 : decide (31 < q) = false := decide_eq_false (by omega)
            have i5 : (0 : Int) ≤ (q : Int) := by omega
            have i6 : (q : Int) < 32 := by omega
            clear hp
            go_wp2_with (go_at_call 11; (with_reducible refine NX.out.mono ?_); rintro e w3 ⟨rfl, M3, o3⟩; have M4 := hide (M3.step0 ((Only.refl [] w3).alloc (.cells #[.int .i64 (q : Int), .int .i64 x] 36))); have bq := Blk.new w3 36 #[.int .i64 (q : Int), .int .i64 x]; have z0 := bq.cell 0; have z1 := bq.cell 1; have BQ := hide bq; have HSZ := hide (show b < w3.heap.size from M3.lt.2.2.2.1); clear M3 o3 bq)
            obtain ⟨w4, hw4⟩ : ∃ w4, w3.alloc (.cells #[.int .i64 (q : Int), .int .i64 x] 36) = w4 := ⟨_, rfl⟩
            rw [hw4] at M4 z0 z1 BQ ⊢
            obtain ⟨X, hX⟩ : ∃ X, w3.heap.size = X := ⟨_, rfl⟩
            rw [hX] at z0 z1 BQ HSZ ⊢
            clear hw4 hX z0 z1 NX
            obtain ⟨A, ca, g', c', w5, q1, q2, q3, o4, f4, M5⟩ := (M4.out.step0 (Only.refl [] w4).drew).pushP hq2 x (by have := HPL.out; omega)
            have q3 : (AppH #[29, 29] 29 #[.slice A (P q).length ca, .slice (some ⟨w4.heap.size, 0, none⟩) 1 1]).run Try.prog (w4.alloc (.cells #[.int .i64 x] 2)).drew = .ok (.slice (some ⟨g', 0, none⟩) ((P q).length + 1) c') w5 := q3
            have hqb : b ∉ blkOf A := fun hx => by have := (own_ge q2 _ hx).1; omega
            have HQX := hide (show X ∉ b :: blkOf A from fun hx => by
              rcases List.mem_cons.1 hx with e | hx
              · have := HSZ.out; omega
              · exact own_ne q2 (BQ.out.drew) (by decide) hx)
            have CX := hide (fun V (o : Only (b :: blkOf A) w4 V) => show V.cell? ⟨X, 0, none⟩ = some (.int .i64 (q : Int)) ∧ V.cell? ⟨X, 1, none⟩ = some (.int .i64 x) from ⟨((BQ.out.only o HQX.out).cell 0).trans rfl, ((BQ.out.only o HQX.out).cell 1).trans rfl⟩)
            have q1b : (w4.alloc (.cells #[.int .i64 x] 2)).drew.cell? ⟨b, q, none⟩ = some (.slice A (P q).length ca) := ((Only.refl [] w4).alloc _).drew.keep0 q1
            have OS2 := hide (show Only (b :: blkOf A) w4 w5 from ((Only.refl [] w4).drew.mono (by simp)).trans (o4.mono (T := b :: blkOf A) (fun x hx => .inl (List.mem_cons_of_mem _ hx))) (fun x hx => .inl hx))
            have OS3 := hide (OS2.out.setCell (p := ⟨b, q, none⟩) (.inl (by simp)) (.slice (some ⟨g', 0, none⟩) ((P q).length + 1) c'))
            have OS1 := hide (show Only (b :: blkOf A) w4 (w4.alloc (.cells #[.int .i64 x] 2)).drew from ((Only.refl _ w4).alloc _).drew)
            have M5 := hide M5
            have f5 : w5.cell? ⟨b, q, none⟩ = some (.slice A (P q).length ca) := o4.keep q1 hqb
            obtain ⟨zz0, zz1⟩ := CX.out _ OS3.out
            have ZZ0 := hide zz0
            have ZZ1 := hide zz1
            clear o4 q2 hqb zz0 zz1
            refine wp_region_held_drew (S := (fun V => Only (b :: blkOf A) w4 V)) (by kernel_rfl) ((Only.refl _ w4).drew) (fun hHeld => ?_)
            refine wpAnyH_take (i := 0) (oi := ⟨some 164, _, _, _, _, _⟩) (v := ?ve1) rfl (by kernel_rfl) (by kernel_rfl) (by kernel_rfl) (fun _ _ _ h => h) (Or.inl ⟨by rfl, ?hye1⟩) (by assumption) ?reste1
            case hye1 => (intro V hSw; (try dsimp only at hSw); go_simp; first | done | (with_reducible rfl))
            try simp only [Act.put, List.setIfInBounds_toArray, List.set_cons_zero, List.set_cons_succ]
            refine wpAnyH_take (i := 1) (oi := ⟨some 165, _, _, _, _, _⟩) (v := ?ve2) rfl (by kernel_rfl) (by kernel_rfl) (by kernel_rfl) (fun _ _ _ h => h) (Or.inl ⟨by rfl, ?hye2⟩) (by assumption) ?reste2
            case hye2 => (intro V hSw; (try dsimp only at hSw); obtain ⟨z, zz⟩ := CX.out V hSw; go_simp; first | done | (with_reducible rfl))
            try simp only [Act.put, List.setIfInBounds_toArray, List.set_cons_zero, List.set_cons_succ]
            refine wpAnyH_take (i := 2) (oi := ⟨some 166, _, _, _, _, _⟩) (v := ?ve3) rfl (by kernel_rfl) (by kernel_rfl) (by kernel_rfl) (fun _ _ _ h => h) (Or.inl ⟨by rfl, ?hye3⟩) (by assumption) ?reste3
            case hye3 => (intro V hSw; (try dsimp only at hSw); go_simp; first | done | (with_reducible rfl))
            try simp only [Act.put, List.setIfInBounds_toArray, List.set_cons_zero, List.set_cons_succ]
            refine wpAnyH_take (i := 3) (oi := ⟨some 167, _, _, _, _, _⟩) (v := ?ve4) rfl (by kernel_rfl) (by kernel_rfl) (by kernel_rfl) (fun _ _ _ h => h) (Or.inl ⟨by rfl, ?hye4⟩) (by assumption) ?reste4
            case hye4 => (intro V hSw; (try dsimp only at hSw); obtain ⟨z, zz⟩ := CX.out V hSw; go_simp; first | done | (with_reducible rfl))
            try simp only [Act.put, List.setIfInBounds_toArray, List.set_cons_zero, List.set_cons_succ]
            refine wpAnyH_take (i := 4) (oi := ⟨some 168, _, _, _, _, _⟩) (v := ?ve5) rfl (by kernel_rfl) (by kernel_rfl) (by kernel_rfl) (fun _ _ _ h => h) (Or.inl ⟨by rfl, ?hye5⟩) (by assumption) ?reste5
            case hye5 => (intro V hSw; (try dsimp only at hSw); go_simp; first | done | (with_reducible rfl))
            try simp only [Act.put, List.setIfInBounds_toArray, List.set_cons_zero, List.set_cons_succ]
            refine wpAnyH_take (i := 6) (oi := ⟨some 170, _, _, _, _, _⟩) (v := ?ve6) rfl (by kernel_rfl) (by kernel_rfl) (by kernel_rfl) (fun _ _ _ h => h) (Or.inl ⟨by rfl, ?hye6⟩) (by assumption) ?reste6
            case hye6 => (intro V hSw; (try dsimp only at hSw); go_simp; first | done | (with_reducible rfl))
            try simp only [Act.put, List.setIfInBounds_toArray, List.set_cons_zero, List.set_cons_succ]
            refine wpAnyH_take (i := 7) (oi := ⟨some 171, _, _, _, _, _⟩) (v := ?ve7) rfl (by kernel_rfl) (by kernel_rfl) (by kernel_rfl) (fun _ _ _ h => h) (Or.inl ⟨by rfl, ?hye7⟩) (by assumption) ?reste7
            case hye7 => (intro V hSw; (try dsimp only at hSw); obtain ⟨z, zz⟩ := CX.out V hSw; go_simp; first | done | (with_reducible rfl))
            try simp only [Act.put, List.setIfInBounds_toArray, List.set_cons_zero, List.set_cons_succ]
            refine wpAnyH_ready (rs := [5, 8]) (by kernel_rfl) (by simp) ?_
            refine AllReadyH.cons (o := ⟨some 169, _, _, _, _, _⟩) rfl (fun K hK => ?_) (AllReadyH.cons (o := ⟨some 172, _, _, _, _, _⟩) rfl (fun K hK => ?_) (AllReadyH.nil))
            · skip
              rw [if_pos (by rfl)]
              go_simp
              try dsimp only
              refine hK.out _ _ (hHeld) (fun hHeld => ?_)
              clear hK K
              try simp only [Act.put, List.setIfInBounds_toArray, List.set_cons_zero, List.set_cons_succ]
              refine wpAnyH_ready (rs := [8]) (by kernel_rfl) (by simp) ?_
              refine AllReadyH.cons (o := ⟨some 172, _, _, _, _, _⟩) rfl (fun K hK => ?_) (AllReadyH.nil)
              rw [if_pos (by rfl)]
              go_simp
              try dsimp only
              refine hK.out _ _ (OS1.out) (fun hHeld => ?_)
              clear hK K
              try simp only [Act.put, List.setIfInBounds_toArray, List.set_cons_zero, List.set_cons_succ]
              refine wpAnyH_ready (rs := [9]) (by kernel_rfl) (by simp) ?_
              refine AllReadyH.cons (o := ⟨some 173, _, _, _, _, _⟩) rfl (fun K hK => ?_) (AllReadyH.nil)
              rw [if_pos (by rfl)]
              go_simp
              try dsimp only
              refine hK.out _ _ (OS2.out) (fun hHeld => ?_)
              clear hK K
              try simp only [Act.put, List.setIfInBounds_toArray, List.set_cons_zero, List.set_cons_succ]
              refine wpAnyH_take (i := 10) (oi := ⟨some 174, _, _, _, _, _⟩) (v := ?ve8) rfl (by kernel_rfl) (by kernel_rfl) (by kernel_rfl) (fun _ _ _ h => h) (Or.inl ⟨by rfl, ?hye8⟩) (by assumption) ?reste8
              case hye8 => (intro V hSw; (try dsimp only at hSw); go_simp; first | done | (with_reducible rfl))
              try simp only [Act.put, List.setIfInBounds_toArray, List.set_cons_zero, List.set_cons_succ]
              refine wpAnyH_ready (rs := [11]) (by kernel_rfl) (by simp) ?_
              refine AllReadyH.cons (o := ⟨none, _, _, _, _, _⟩) rfl (fun K hK => ?_) (AllReadyH.nil)
              rw [if_pos (by rfl)]
              go_simp
              try dsimp only
              refine hK.out _ _ (OS3.out) (fun hHeld => ?_)
              clear hK K
              try simp only [Act.put, List.setIfInBounds_toArray, List.set_cons_zero, List.set_cons_succ]
              refine wpAnyH_done (by kernel_rfl) ?_ _
              have M6 := M5.out
              have z6 := ZZ0.out
              have z7 : (w5.setCell ⟨b, q, none⟩ (.slice (some ⟨g', 0, none⟩) ((P q).length + 1) c')).cell? ⟨b, q, none⟩ = some (.slice (some ⟨g', 0, none⟩) ((P q).length + 1) c') := World.cell?_setCell_same _ _ _ f5
              generalize w5.setCell ⟨b, q, none⟩ (.slice (some ⟨g', 0, none⟩) ((P q).length + 1) c') = w6 at M6 z6 z7 ⊢
              have M6 := hide M6
              have d7 : decide ((200 : Int) < ((P q).length : Int) + 1) = false := decide_eq_false (by have := HPL.out; omega)
              have d8 : decide (200 < (P q).length + 1) = false := decide_eq_false (by have := HPL.out; omega)
              clear q1 q1b q3 f4 f5 OS1 OS2 OS3 CX HQX M4 BQ ZZ0 ZZ1 M5
              go_wp2_with fail
              go_roundw
              case rel => exact ⟨_, _, M6, TK⟩
              case measure =>
                have e1 := M6.out.taken
                have e2 := hM.out.taken
                have e3 := sumQ_up P q x 32
                have e4 := sumQ_le (upq P q x) 120 32 (fun k hk => TK.out.plen hk)
                rw [if_pos hq2] at e3
                show 6400 - takenAt _ b < 6400 - takenAt _ b
                rw [e1, e2, e3]
                omega
            · skip
              rw [if_pos (by rfl)]
              go_simp
              try dsimp only
              refine hK.out _ _ (OS1.out) (fun hHeld => ?_)
              clear hK K
              try simp only [Act.put, List.setIfInBounds_toArray, List.set_cons_zero, List.set_cons_succ]
              refine wpAnyH_ready (rs := [5]) (by kernel_rfl) (by simp) ?_
              refine AllReadyH.cons (o := ⟨some 169, _, _, _, _, _⟩) rfl (fun K hK => ?_) (AllReadyH.nil)
              rw [if_pos (by rfl)]
              go_simp
              try dsimp only
              refine hK.out _ _ (hHeld) (fun hHeld => ?_)
              clear hK K
              try simp only [Act.put, List.setIfInBounds_toArray, List.set_cons_zero, List.set_cons_succ]
              refine wpAnyH_ready (rs := [9]) (by kernel_rfl) (by simp) ?_
              refine AllReadyH.cons (o := ⟨some 173, _, _, _, _, _⟩) rfl (fun K hK => ?_) (AllReadyH.nil)
              rw [if_pos (by rfl)]
              go_simp
              try dsimp only
              refine hK.out _ _ (OS2.out) (fun hHeld => ?_)
              clear hK K
              try simp only [Act.put, List.setIfInBounds_toArray, List.set_cons_zero, List.set_cons_succ]
              refine wpAnyH_take (i := 10) (oi := ⟨some 174, _, _, _, _, _⟩) (v := ?ve9) rfl (by kernel_rfl) (by kernel_rfl) (by kernel_rfl) (fun _ _ _ h => h) (Or.inl ⟨by rfl, ?hye9⟩) (by assumption) ?reste9
              case hye9 => (intro V hSw; (try dsimp only at hSw); go_simp; first | done | (with_reducible rfl))
              try simp only [Act.put, List.setIfInBounds_toArray, List.set_cons_zero, List.set_cons_succ]
              refine wpAnyH_ready (rs := [11]) (by kernel_rfl) (by simp) ?_
              refine AllReadyH.cons (o := ⟨none, _, _, _, _, _⟩) rfl (fun K hK => ?_) (AllReadyH.nil)
              rw [if_pos (by rfl)]
              go_simp
              try dsimp only
              refine hK.out _ _ (OS3.out) (fun hHeld => ?_)
              clear hK K
              try simp only [Act.put, List.setIfInBounds_toArray, List.set_cons_zero, List.set_cons_succ]
              refine wpAnyH_done (by kernel_rfl) ?_ _
              have M6 := M5.out
              have z6 := ZZ0.out
              have z7 : (w5.setCell ⟨b, q, none⟩ (.slice (some ⟨g', 0, none⟩) ((P q).length + 1) c')).cell? ⟨b, q, none⟩ = some (.slice (some ⟨g', 0, none⟩) ((P q).length + 1) c') := World.cell?_setCell_same _ _ _ f5
              generalize w5.setCell ⟨b, q, none⟩ (.slice (some ⟨g', 0, none⟩) ((P q).length + 1) c') = w6 at M6 z6 z7 ⊢
              have M6 := hide M6
              have d7 : decide ((200 : Int) < ((P q).length : Int) + 1) = false := decide_eq_false (by have := HPL.out; omega)
              have d8 : decide (200 < (P q).length + 1) = false := decide_eq_false (by have := HPL.out; omega)
              clear q1 q1b q3 f4 f5 OS1 OS2 OS3 CX HQX M4 BQ ZZ0 ZZ1 M5
              go_wp2_with fail
              go_roundw
              case rel => exact ⟨_, _, M6, TK⟩
              case measure =>
                have e1 := M6.out.taken
                have e2 := hM.out.taken
                have e3 := sumQ_up P q x 32
                have e4 := sumQ_le (upq P q x) 120 32 (fun k hk => TK.out.plen hk)
                rw [if_pos hq2] at e3
                show 6400 - takenAt _ b < 6400 - takenAt _ b
                rw [e1, e2, e3]
                omega
      · skip
        have P1 := hide (hP.out.more hk2)
        have M1 := hM
        clear hgo hM hP HA
        go_wp2_with fail
        go_loopw [15] (fun vb wr => ∃ (L : List Snt) (P : Nat → List Int), Hid (MR w wr g mb a b S L Q P) ∧ Hid (PR L Q P 120)) (fun _ wr => 6400 - takenAt wr b)
        case atStart => exact ⟨L, P, M1, P1⟩
        case round =>
          clear M1 P1
          obtain ⟨L, P, hM, hP⟩ := hrel
          have NX := hide (show Calls Try.prog 11 #[.pointer (some ⟨g, 0, none⟩), .int .i64 1, .int .u32 4294967295] wr fun e w' => e = .returned (sigV (peekI 3 L 1 4294967295)) ∧ MR w w' g mb a b S (nextL 3 L 1 4294967295) Q P ∧ Only [g, mb] wr w' from hM.out.next 4294967295 (by decide))
          cases hp : peekI 3 L 1 4294967295 with
          | none =>
            rw [hp] at NX
            unfold sigV at NX
            have hd := hP.out.done hM.out.inv hp
            have hL : nextL 3 L 1 4294967295 = [] := by unfold nextL; rw [hp]; exact hd.1
            rw [hL] at NX
            have EQ := hide hd.2
            clear hp hL hd
            go_wp2_with (go_at_call 11; (with_reducible refine NX.out.mono ?_); rintro e w3 ⟨rfl, M3, o3⟩; have M4 := hide (M3.step0 ((Only.refl [] w3).alloc (.cells #[.int .i64 0, .int .i64 0] 36))); clear M3 o3)
            generalize w3.alloc (.cells #[.int .i64 0, .int .i64 0] 36) = w5 at M4 ⊢
            clear NX hM
            go_loopw [17] (fun vk wq => ∃ j : Nat, 16 ≤ j ∧ j ≤ 32 ∧ vk = .int .i64 j ∧ Hid (Only [] w5 wq)) (fun vk _ => 32 - (intOf vk).toNat)
            case atStart => exact ⟨16, by omega, by omega, rfl, hide (Only.refl _ _)⟩
            case round =>
              obtain ⟨j, hj1, hj2, rfl, hOq⟩ := hrel
              have M6 := hide (M4.out.step0 hOq.out)
              by_cases hj : j < 32
              · have eq := EQ.out j hj1 hj
                obtain ⟨A1, d1', q1, r1⟩ := M6.out.getQ hj
                obtain ⟨A2, d2', q2, r2⟩ := M6.out.getP hj
                rw [eq] at q1 r1
                obtain ⟨X, hX⟩ : ∃ X, P j = X := ⟨_, rfl⟩
                rw [hX] at q1 r1 q2 r2
                have HX := hide hX
                have hXl : X.length ≤ 120 := by rw [← hX]; exact hP.out.plen hj
                have R1 := hide r1
                have R2 := hide r2
                have i5 : (j : Int) < 32 := by omega
                have i6 : (0 : Int) ≤ (j : Int) := by omega
                have Q1 := hide q1
                have Q2 := hide q2
                clear eq hX r1 r2
                go_wp2_with fail
                go_quiet (fail)
                go_wp2_with fail
                generalize hwq : World.drewN _ _ = w7
                have OQ := hide (show Only [] w5 w7 from by rw [← hwq]; exact hOq.out.drewN _)
                clear hwq
                have M7 := hide (M4.out.step0 OQ.out)
                clear q1 q2 hOq M6
                go_loopw [18] (fun vi wz => ∃ i : Nat, i ≤ X.length ∧ vi = .int .i64 i ∧ Hid (Only [] w7 wz)) (fun vi _ => X.length - (intOf vi).toNat)
                case atStart => exact ⟨0, by omega, rfl, hide (Only.refl _ _)⟩
                case round =>
                  obtain ⟨i, hi, rfl, hOz⟩ := hrel
                  have o8 := OQ.out.trans0 hOz.out
                  obtain ⟨A1', d1'', q1, r1⟩ := (M4.out.step0 o8).getQ hj
                  obtain ⟨A2', d2'', q2, r2⟩ := (M4.out.step0 o8).getP hj
                  rw [EQ.out j hj1 hj, HX.out] at q1 r1
                  rw [HX.out] at q2 r2
                  have O8 := hide o8
                  clear o8
                  by_cases hi2 : i < X.length
                  · obtain ⟨x, hx⟩ : ∃ x, X[i]? = some x := ⟨_, List.getElem?_eq_getElem hi2⟩
                    obtain ⟨g1, rfl, a0, a1⟩ := r1.cell hx
                    obtain ⟨g2, rfl, b0, b1⟩ := r2.cell hx
                    have j2 : (0 : Int) ≤ (i : Int) := by omega
                    have j3 : (i : Int) < (X.length : Int) := by omega
                    clear hx r1 r2
                    go_wp2_with fail
                    go_quiet (fail)
                    go_wp2_with fail
                    go_roundw
                    case rel => exact ⟨i + 1, by omega, by go_num, hide (hOz.out.drewN _)⟩
                    case measure => simp [intOf]; omega
                  · have j3 : ¬ ((i : Int) < (X.length : Int)) := by omega
                    clear r1 r2
                    go_wp2_with fail
                    go_roundw
                    case rel => exact ⟨j + 1, by omega, by omega, by go_num, O8⟩
                    case measure => simp [intOf]; omega
              · obtain rfl : j = 32 := by omega
                have PD := hide M6.out.pend
                have US := hide M6.out.used
                rw [show pendI [] 3 1 = 0 by decide] at PD
                rw [show usedOf [] = 0 by decide] at US
                have PD := hide (show Calls Try.prog 13 #[.pointer (some ⟨g, 0, none⟩), .int .i64 1] wr fun e w' => e = .returned (.int .u32 0) ∧ w' = wr from PD.out)
                have US := hide (show Calls Try.prog 12 #[.pointer (some ⟨g, 0, none⟩)] wr fun e w' => e = .returned (.int .i64 0) ∧ w' = wr from US.out)
                have OF := hide M6.out.o
                go_wp2_with (first
                  | (go_at_call 13; (with_reducible refine PD.out.mono ?_); rintro e w8 ⟨rfl, hw⟩; obtain rfl := hw.symm; clear hw)
                  | (go_at_call 12; (with_reducible refine US.out.mono ?_); rintro e w8 ⟨rfl, hw⟩; obtain rfl := hw.symm; clear hw))
                go_ret
                exact ⟨rfl, OF.out⟩
          | some qx =>
            obtain ⟨q, x⟩ := qx
            rw [hp] at NX
            obtain ⟨hq1, hq2, hq3, hq4, -⟩ := next_facts hM.out.inv hp
            unfold sigV at NX
            simp only at NX
            have TK := hide (hP.out.took hM.out.inv hp)
            have HPL := hide (hP.out.plen hq2)
            have i1 : ¬ ((q : Int) < 1) := by omega
            have i2 : ¬ (31 < (q : Int)) := by omega
            have d1 : decide ((q : Int) < 1) = false := decide_eq_false i1
            have d2 : decide (31 < (q : Int)) = false := decide_eq_false i2
            have d6 : decide (31 < q) = false := decide_eq_false (by omega)
            have i5 : (0 : Int) ≤ (q : Int) := by omega
            have i6 : (q : Int) < 32 := by omega
            clear hp
            go_wp2_with (go_at_call 11; (with_reducible refine NX.out.mono ?_); rintro e w3 ⟨rfl, M3, o3⟩; have M4 := hide (M3.step0 ((Only.refl [] w3).alloc (.cells #[.int .i64 (q : Int), .int .i64 x] 36))); have bq := Blk.new w3 36 #[.int .i64 (q : Int), .int .i64 x]; have z0 := bq.cell 0; have z1 := bq.cell 1; have BQ := hide bq; have HSZ := hide (show b < w3.heap.size from M3.lt.2.2.2.1); clear M3 o3 bq)
            obtain ⟨w4, hw4⟩ : ∃ w4, w3.alloc (.cells #[.int .i64 (q : Int), .int .i64 x] 36) = w4 := ⟨_, rfl⟩
            rw [hw4] at M4 z0 z1 BQ ⊢
            obtain ⟨X, hX⟩ : ∃ X, w3.heap.size = X := ⟨_, rfl⟩
            rw [hX] at z0 z1 BQ HSZ ⊢
            clear hw4 hX z0 z1 NX
            obtain ⟨A, ca, g', c', w5, q1, q2, q3, o4, f4, M5⟩ := (M4.out.step0 (Only.refl [] w4).drew).pushP hq2 x (by have := HPL.out; omega)
            have q3 : (AppH #[29, 29] 29 #[.slice A (P q).length ca, .slice (some ⟨w4.heap.size, 0, none⟩) 1 1]).run Try.prog (w4.alloc (.cells #[.int .i64 x] 2)).drew = .ok (.slice (some ⟨g', 0, none⟩) ((P q).length + 1) c') w5 := q3
            have hqb : b ∉ blkOf A := fun hx => by have := (own_ge q2 _ hx).1; omega
            have HQX := hide (show X ∉ b :: blkOf A from fun hx => by
              rcases List.mem_cons.1 hx with e | hx
              · have := HSZ.out; omega
              · exact own_ne q2 (BQ.out.drew) (by decide) hx)
            have CX := hide (fun V (o : Only (b :: blkOf A) w4 V) => show V.cell? ⟨X, 0, none⟩ = some (.int .i64 (q : Int)) ∧ V.cell? ⟨X, 1, none⟩ = some (.int .i64 x) from ⟨((BQ.out.only o HQX.out).cell 0).trans rfl, ((BQ.out.only o HQX.out).cell 1).trans rfl⟩)
            have q1b : (w4.alloc (.cells #[.int .i64 x] 2)).drew.cell? ⟨b, q, none⟩ = some (.slice A (P q).length ca) := ((Only.refl [] w4).alloc _).drew.keep0 q1
            have OS2 := hide (show Only (b :: blkOf A) w4 w5 from ((Only.refl [] w4).drew.mono (by simp)).trans (o4.mono (T := b :: blkOf A) (fun x hx => .inl (List.mem_cons_of_mem _ hx))) (fun x hx => .inl hx))
            have OS3 := hide (OS2.out.setCell (p := ⟨b, q, none⟩) (.inl (by simp)) (.slice (some ⟨g', 0, none⟩) ((P q).length + 1) c'))
            have OS1 := hide (show Only (b :: blkOf A) w4 (w4.alloc (.cells #[.int .i64 x] 2)).drew from ((Only.refl _ w4).alloc _).drew)
            have M5 := hide M5
            have f5 : w5.cell? ⟨b, q, none⟩ = some (.slice A (P q).length ca) := o4.keep q1 hqb
            obtain ⟨zz0, zz1⟩ := CX.out _ OS3.out
            have ZZ0 := hide zz0
            have ZZ1 := hide zz1
            clear o4 q2 hqb zz0 zz1
            refine wp_region_held_drew (S := (fun V => Only (b :: blkOf A) w4 V)) (by kernel_rfl) ((Only.refl _ w4).drew) (fun hHeld => ?_)
            refine wpAnyH_take (i := 0) (oi := ⟨some 164, _, _, _, _, _⟩) (v := ?vf1) rfl (by kernel_rfl) (by kernel_rfl) (by kernel_rfl) (fun _ _ _ h => h) (Or.inl ⟨by rfl, ?hyf1⟩) (by assumption) ?restf1
            case hyf1 => (intro V hSw; (try dsimp only at hSw); go_simp; first | done | (with_reducible rfl))
            try simp only [Act.put, List.setIfInBounds_toArray, List.set_cons_zero, List.set_cons_succ]
            refine wpAnyH_take (i := 1) (oi := ⟨some 165, _, _, _, _, _⟩) (v := ?vf2) rfl (by kernel_rfl) (by kernel_rfl) (by kernel_rfl) (fun _ _ _ h => h) (Or.inl ⟨by rfl, ?hyf2⟩) (by assumption) ?restf2
            case hyf2 => (intro V hSw; (try dsimp only at hSw); obtain ⟨z, zz⟩ := CX.out V hSw; go_simp; first | done | (with_reducible rfl))
            try simp only [Act.put, List.setIfInBounds_toArray, List.set_cons_zero, List.set_cons_succ]
            refine wpAnyH_take (i := 2) (oi := ⟨some 166, _, _, _, _, _⟩) (v := ?vf3) rfl (by kernel_rfl) (by kernel_rfl) (by kernel_rfl) (fun _ _ _ h => h) (Or.inl ⟨by rfl, ?hyf3⟩) (by assumption) ?restf3
            case hyf3 => (intro V hSw; (try dsimp only at hSw); go_simp; first | done | (with_reducible rfl))
            try simp only [Act.put, List.setIfInBounds_toArray, List.set_cons_zero, List.set_cons_succ]
            refine wpAnyH_take (i := 3) (oi := ⟨some 167, _, _, _, _, _⟩) (v := ?vf4) rfl (by kernel_rfl) (by kernel_rfl) (by kernel_rfl) (fun _ _ _ h => h) (Or.inl ⟨by rfl, ?hyf4⟩) (by assumption) ?restf4
            case hyf4 => (intro V hSw; (try dsimp only at hSw); obtain ⟨z, zz⟩ := CX.out V hSw; go_simp; first | done | (with_reducible rfl))
            try simp only [Act.put, List.setIfInBounds_toArray, List.set_cons_zero, List.set_cons_succ]
            refine wpAnyH_take (i := 4) (oi := ⟨some 168, _, _, _, _, _⟩) (v := ?vf5) rfl (by kernel_rfl) (by kernel_rfl) (by kernel_rfl) (fun _ _ _ h => h) (Or.inl ⟨by rfl, ?hyf5⟩) (by assumption) ?restf5
            case hyf5 => (intro V hSw; (try dsimp only at hSw); go_simp; first | done | (with_reducible rfl))
            try simp only [Act.put, List.setIfInBounds_toArray, List.set_cons_zero, List.set_cons_succ]
            refine wpAnyH_take (i := 6) (oi := ⟨some 170, _, _, _, _, _⟩) (v := ?vf6) rfl (by kernel_rfl) (by kernel_rfl) (by kernel_rfl) (fun _ _ _ h => h) (Or.inl ⟨by rfl, ?hyf6⟩) (by assumption) ?restf6
            case hyf6 => (intro V hSw; (try dsimp only at hSw); go_simp; first | done | (with_reducible rfl))
            try simp only [Act.put, List.setIfInBounds_toArray, List.set_cons_zero, List.set_cons_succ]
            refine wpAnyH_take (i := 7) (oi := ⟨some 171, _, _, _, _, _⟩) (v := ?vf7) rfl (by kernel_rfl) (by kernel_rfl) (by kernel_rfl) (fun _ _ _ h => h) (Or.inl ⟨by rfl, ?hyf7⟩) (by assumption) ?restf7
            case hyf7 => (intro V hSw; (try dsimp only at hSw); obtain ⟨z, zz⟩ := CX.out V hSw; go_simp; first | done | (with_reducible rfl))
            try simp only [Act.put, List.setIfInBounds_toArray, List.set_cons_zero, List.set_cons_succ]
            refine wpAnyH_ready (rs := [5, 8]) (by kernel_rfl) (by simp) ?_
            refine AllReadyH.cons (o := ⟨some 169, _, _, _, _, _⟩) rfl (fun K hK => ?_) (AllReadyH.cons (o := ⟨some 172, _, _, _, _, _⟩) rfl (fun K hK => ?_) (AllReadyH.nil))
            · skip
              rw [if_pos (by rfl)]
              go_simp
              try dsimp only
              refine hK.out _ _ (hHeld) (fun hHeld => ?_)
              clear hK K
              try simp only [Act.put, List.setIfInBounds_toArray, List.set_cons_zero, List.set_cons_succ]
              refine wpAnyH_ready (rs := [8]) (by kernel_rfl) (by simp) ?_
              refine AllReadyH.cons (o := ⟨some 172, _, _, _, _, _⟩) rfl (fun K hK => ?_) (AllReadyH.nil)
              rw [if_pos (by rfl)]
              go_simp
              try dsimp only
              refine hK.out _ _ (OS1.out) (fun hHeld => ?_)
              clear hK K
              try simp only [Act.put, List.setIfInBounds_toArray, List.set_cons_zero, List.set_cons_succ]
              refine wpAnyH_ready (rs := [9]) (by kernel_rfl) (by simp) ?_
              refine AllReadyH.cons (o := ⟨some 173, _, _, _, _, _⟩) rfl (fun K hK => ?_) (AllReadyH.nil)
              rw [if_pos (by rfl)]
              go_simp
              try dsimp only
              refine hK.out _ _ (OS2.out) (fun hHeld => ?_)
              clear hK K
              try simp only [Act.put, List.setIfInBounds_toArray, List.set_cons_zero, List.set_cons_succ]
              refine wpAnyH_take (i := 10) (oi := ⟨some 174, _, _, _, _, _⟩) (v := ?vf8) rfl (by kernel_rfl) (by kernel_rfl) (by kernel_rfl) (fun _ _ _ h => h) (Or.inl ⟨by rfl, ?hyf8⟩) (by assumption) ?restf8
              case hyf8 => (intro V hSw; (try dsimp only at hSw); go_simp; first | done | (with_reducible rfl))
              try simp only [Act.put, List.setIfInBounds_toArray, List.set_cons_zero, List.set_cons_succ]
              refine wpAnyH_ready (rs := [11]) (by kernel_rfl) (by simp) ?_
              refine AllReadyH.cons (o := ⟨none, _, _, _, _, _⟩) rfl (fun K hK => ?_) (AllReadyH.nil)
              rw [if_pos (by rfl)]
              go_simp
              try dsimp only
              refine hK.out _ _ (OS3.out) (fun hHeld => ?_)
              clear hK K
              try simp only [Act.put, List.setIfInBounds_toArray, List.set_cons_zero, List.set_cons_succ]
              refine wpAnyH_done (by kernel_rfl) ?_ _
              have M6 := M5.out
              have z6 := ZZ0.out
              have z7 : (w5.setCell ⟨b, q, none⟩ (.slice (some ⟨g', 0, none⟩) ((P q).length + 1) c')).cell? ⟨b, q, none⟩ = some (.slice (some ⟨g', 0, none⟩) ((P q).length + 1) c') := World.cell?_setCell_same _ _ _ f5
              generalize w5.setCell ⟨b, q, none⟩ (.slice (some ⟨g', 0, none⟩) ((P q).length + 1) c') = w6 at M6 z6 z7 ⊢
              have M6 := hide M6
              have d7 : decide ((200 : Int) < ((P q).length : Int) + 1) = false := decide_eq_false (by have := HPL.out; omega)
              have d8 : decide (200 < (P q).length + 1) = false := decide_eq_false (by have := HPL.out; omega)
              clear q1 q1b q3 f4 f5 OS1 OS2 OS3 CX HQX M4 BQ ZZ0 ZZ1 M5
              go_wp2_with fail
              go_roundw
              case rel => exact ⟨_, _, M6, TK⟩
              case measure =>
                have e1 := M6.out.taken
                have e2 := hM.out.taken
                have e3 := sumQ_up P q x 32
                have e4 := sumQ_le (upq P q x) 120 32 (fun k hk => TK.out.plen hk)
                rw [if_pos hq2] at e3
                show 6400 - takenAt _ b < 6400 - takenAt _ b
                rw [e1, e2, e3]
                omega
            · skip
              rw [if_pos (by rfl)]
              go_simp
              try dsimp only
              refine hK.out _ _ (OS1.out) (fun hHeld => ?_)
              clear hK K
              try simp only [Act.put, List.setIfInBounds_toArray, List.set_cons_zero, List.set_cons_succ]
              refine wpAnyH_ready (rs := [5]) (by kernel_rfl) (by simp) ?_
              refine AllReadyH.cons (o := ⟨some 169, _, _, _, _, _⟩) rfl (fun K hK => ?_) (AllReadyH.nil)
              rw [if_pos (by rfl)]
              go_simp
              try dsimp only
              refine hK.out _ _ (hHeld) (fun hHeld => ?_)
              clear hK K
              try simp only [Act.put, List.setIfInBounds_toArray, List.set_cons_zero, List.set_cons_succ]
              refine wpAnyH_ready (rs := [9]) (by kernel_rfl) (by simp) ?_
              refine AllReadyH.cons (o := ⟨some 173, _, _, _, _, _⟩) rfl (fun K hK => ?_) (AllReadyH.nil)
              rw [if_pos (by rfl)]
              go_simp
              try dsimp only
              refine hK.out _ _ (OS2.out) (fun hHeld => ?_)
              clear hK K
              try simp only [Act.put, List.setIfInBounds_toArray, List.set_cons_zero, List.set_cons_succ]
              refine wpAnyH_take (i := 10) (oi := ⟨some 174, _, _, _, _, _⟩) (v := ?vf9) rfl (by kernel_rfl) (by kernel_rfl) (by kernel_rfl) (fun _ _ _ h => h) (Or.inl ⟨by rfl, ?hyf9⟩) (by assumption) ?restf9
              case hyf9 => (intro V hSw; (try dsimp only at hSw); go_simp; first | done | (with_reducible rfl))
              try simp only [Act.put, List.setIfInBounds_toArray, List.set_cons_zero, List.set_cons_succ]
              refine wpAnyH_ready (rs := [11]) (by kernel_rfl) (by simp) ?_
              refine AllReadyH.cons (o := ⟨none, _, _, _, _, _⟩) rfl (fun K hK => ?_) (AllReadyH.nil)
              rw [if_pos (by rfl)]
              go_simp
              try dsimp only
              refine hK.out _ _ (OS3.out) (fun hHeld => ?_)
              clear hK K
              try simp only [Act.put, List.setIfInBounds_toArray, List.set_cons_zero, List.set_cons_succ]
              refine wpAnyH_done (by kernel_rfl) ?_ _
              have M6 := M5.out
              have z6 := ZZ0.out
              have z7 : (w5.setCell ⟨b, q, none⟩ (.slice (some ⟨g', 0, none⟩) ((P q).length + 1) c')).cell? ⟨b, q, none⟩ = some (.slice (some ⟨g', 0, none⟩) ((P q).length + 1) c') := World.cell?_setCell_same _ _ _ f5
              generalize w5.setCell ⟨b, q, none⟩ (.slice (some ⟨g', 0, none⟩) ((P q).length + 1) c') = w6 at M6 z6 z7 ⊢
              have M6 := hide M6
              have d7 : decide ((200 : Int) < ((P q).length : Int) + 1) = false := decide_eq_false (by have := HPL.out; omega)
              have d8 : decide (200 < (P q).length + 1) = false := decide_eq_false (by have := HPL.out; omega)
              clear q1 q1b q3 f4 f5 OS1 OS2 OS3 CX HQX M4 BQ ZZ0 ZZ1 M5
              go_wp2_with fail
              go_roundw
              case rel => exact ⟨_, _, M6, TK⟩
              case measure =>
                have e1 := M6.out.taken
                have e2 := hM.out.taken
                have e3 := sumQ_up P q x 32
                have e4 := sumQ_le (upq P q x) 120 32 (fun k hk => TK.out.plen hk)
                rw [if_pos hq2] at e3
                show 6400 - takenAt _ b < 6400 - takenAt _ b
                rw [e1, e2, e3]
                omega
theorem queue_walk (a0 : Int) (A : Option Addr) (n c : Nat) (w : World) (hA : StepsAt w A n) (hn : n ≤ maxLen) : Calls Try.prog 3 #[.int .i64 a0, .slice A n c] w fun e w' => e = .returned (.bool true) ∧ Only [] w w' := by
  by_cases h : okSize 3 a0
  · have h' := h
    unfold okSize at h'
    obtain ⟨S, rfl⟩ : ∃ S : Nat, a0 = S := ⟨a0.toNat, by omega⟩
    exact queue_good S A n c w (by omega) (by omega) hA hn
  · exact queue_bad a0 A n c w h
end Go.Proofs.Ytnmlcijkggfhmaa
