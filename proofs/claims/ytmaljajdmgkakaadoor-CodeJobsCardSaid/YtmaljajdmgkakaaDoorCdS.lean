/- Code: the walk of CodeJobs. Condition: Env; the job's cells. -/
import Derived.Test.YtmaljajdmgkakaaDoorCdR
import Derived.Test.YtmaljajdmgkakaaDoorCdF
import Derived.BigRegion
import Derived.Deep.RegionHeld3
namespace Go.Proofs.YtmaljajdmgkakaaDoor
open Go.RowKit
set_option linter.unusedVariables false
set_option linter.all false
set_option maxRecDepth 20000
set_option maxHeartbeats 16000000 in
theorem jobs_walk (J : Jb) (w : World) (hJ : JbAt w J) (he : Env w) (hw4 : 4 ≤ w.heap.size) : Calls Tryd.prog 5 #[.agg (jobV J)] w fun e w' => e = .returned (.bool true) ∧ Only [] w w' := by
  have KN := hide (fun W (o : Only [] w W) => known_any W (he.only o) (by have := o.size; omega))
  have JA := hide (fun W (o : Only [] w W) => show JbAt W J from ⟨hJ.1.only0 o, hJ.2.1.only0 o, hJ.2.2⟩)
  obtain ⟨hP, hT, hpn, htn⟩ := hJ
  have HP := hide hP
  have HT := hide hT
  have b1 := Blk.new w 46 (jobV J)
  have o1 := (Only.refl [] w).alloc (.cells (jobV J) 46)
  unfold jobV at b1 o1
  unfold jobV
  unfold maxLen at hpn htn
  have x0 := b1.cell 0
  have x1 := b1.cell 1
  have x2 := b1.cell 2
  have x3 := b1.cell 3
  have x4 := b1.cell 4
  have x5 := b1.cell 5
  have x6 := b1.cell 6
  have x7 := b1.cell 7
  have B1 := hide b1
  have O1 := hide o1
  clear hP hT b1 o1 he hw4
  go_enter Tryd.func5, Tryd.ntmps5
  go_wp2_with fail
  clear x0 x1 x2 x3 x4 x5 x6 x7
  obtain ⟨X, hX⟩ : ∃ X, w.heap.size = X := ⟨_, rfl⟩
  rw [hX] at B1
  simp only [hX]
  obtain ⟨V0, hV⟩ : ∃ V, w.alloc (.cells #[.int .i64 J.t, .int .i64 J.o, .int .i64 J.s, .int .i64 J.q, .int .i64 J.m, .int .i64 J.p, .slice J.pA J.pn J.pc, .slice J.tA J.tn J.tc] 46) = V := ⟨_, rfl⟩
  rw [hV] at B1 O1 ⊢
  clear hX hV
  go_loopw [3, 4] (fun v3 v4 wr => ∃ (x : Int) (q : Nat), q ≤ J.pn ∧ v3 = .int .i64 x ∧ v4 = .int .i64 q ∧ V0 = wr) (fun _ v4 _ => J.pn - (intOf v4).toNat)
  case atStart => exact ⟨_, 0, by omega, rfl, rfl, (by first | rfl | trivial)⟩
  case round =>
    obtain ⟨x, q, hq, rfl, rfl, hw⟩ := hrel
    obtain rfl := hw
    have y6 := B1.out.cell 6
    by_cases hgo : q < J.pn ∧ q < 100
    · obtain ⟨a, hA, m0, m1, m2⟩ := HP.out q hgo.1
      rw [hA] at y6
      have c0 := O1.out.keep0 m0
      have j0 : (0 : Int) ≤ (q : Int) := by omega
      have j1 : (q : Int) < (J.pn : Int) := by omega
      have j2 : (q : Int) < 100 := by omega
      have hq1 := hgo.1
      clear m0 m2 hA hgo
      go_wp2_with fail
      go_roundw
      case rel => exact ⟨_, q + 1, by omega, rfl, by go_num, (by first | rfl | trivial)⟩
      case measure => simp [intOf]; omega
    · rcases (show ((q : Int) < (J.pn : Int) ∧ ¬ ((q : Int) < 100)) ∨ ¬ ((q : Int) < (J.pn : Int)) from by omega) with ⟨hA1, hA2⟩ | hA1
      · clear hgo
        go_wp2_with fail
        go_loopw [3, 5] (fun v3 v5 wr => ∃ (x : Int) (q : Nat), q ≤ J.tn ∧ v3 = .int .i64 x ∧ v5 = .int .i64 q ∧ V0 = wr) (fun _ v5 _ => J.tn - (intOf v5).toNat)
        case atStart => exact ⟨_, 0, by omega, rfl, rfl, (by first | rfl | trivial)⟩
        case round =>
          obtain ⟨x, r, hr, rfl, rfl, hw⟩ := hrel
          obtain rfl := hw
          have y7 := B1.out.cell 7
          by_cases hgo : r < J.tn ∧ r < 100
          · obtain ⟨a, hA, m0⟩ := HT.out r hgo.1
            rw [hA] at y7
            have c0 := O1.out.keep0 m0
            have j0 : (0 : Int) ≤ (r : Int) := by omega
            have j1 : (r : Int) < (J.tn : Int) := by omega
            have j2 : (r : Int) < 100 := by omega
            have hq1 := hgo.1
            clear m0 hA hgo hA1
            go_wp2_with fail
            go_roundw
            case rel => exact ⟨_, r + 1, by omega, rfl, by go_num, (by first | rfl | trivial)⟩
            case measure => simp [intOf]; omega
          · have hend : ∀ b : Bool, True := fun _ => trivial
            have OW := O1
            clear hA1
            rcases (show ((r : Int) < (J.tn : Int) ∧ ¬ ((r : Int) < 100)) ∨ ¬ ((r : Int) < (J.tn : Int)) from by omega) with ⟨hB1, hB2⟩ | hB1
            · clear hgo
              by_cases p0 : (9000 : Int) < x
              · have t0 : decide ((9000 : Int) < x) = true := decide_eq_true (by omega)
                clear p0
                go_wp2_with (go_at_call 6; (with_reducible refine (KN.out _ OW.out).mono ?_); rintro e w1 ⟨rfl, o⟩; have O2 := hide (OW.out.trans0 o); clear o)
                go_ret
                exact ⟨rfl, O2.out⟩
              · by_cases p1 : 100 < J.pn
                · have t0 : decide ((9000 : Int) < x) = false := decide_eq_false (by omega)
                  have t1 : decide ((100 : Int) < (J.pn : Int)) = true := decide_eq_true (by omega)
                  have s1 : decide (100 < J.pn) = true := decide_eq_true (by omega)
                  clear p0 p1
                  go_wp2_with (go_at_call 6; (with_reducible refine (KN.out _ OW.out).mono ?_); rintro e w1 ⟨rfl, o⟩; have O2 := hide (OW.out.trans0 o); clear o)
                  go_ret
                  exact ⟨rfl, O2.out⟩
                · by_cases p2 : 100 < J.tn
                  · have t0 : decide ((9000 : Int) < x) = false := decide_eq_false (by omega)
                    have t1 : decide ((100 : Int) < (J.pn : Int)) = false := decide_eq_false (by omega)
                    have s1 : decide (100 < J.pn) = false := decide_eq_false (by omega)
                    have t2 : decide ((100 : Int) < (J.tn : Int)) = true := decide_eq_true (by omega)
                    have s2 : decide (100 < J.tn) = true := decide_eq_true (by omega)
                    clear p0 p1 p2
                    go_wp2_with (go_at_call 6; (with_reducible refine (KN.out _ OW.out).mono ?_); rintro e w1 ⟨rfl, o⟩; have O2 := hide (OW.out.trans0 o); clear o)
                    go_ret
                    exact ⟨rfl, O2.out⟩
                  · have t0 : decide ((9000 : Int) < x) = false := decide_eq_false (by omega)
                    have t1 : decide ((100 : Int) < (J.pn : Int)) = false := decide_eq_false (by omega)
                    have s1 : decide (100 < J.pn) = false := decide_eq_false (by omega)
                    have t2 : decide ((100 : Int) < (J.tn : Int)) = false := decide_eq_false (by omega)
                    have s2 : decide (100 < J.tn) = false := decide_eq_false (by omega)
                    clear p0 p1 p2
                    go_wp2_with fail
                    obtain ⟨V, hV⟩ : ∃ V, V0 = V := ⟨_, rfl⟩
                    have OV := O1
                    have KX := hide (fun U1 (oo : Only [] V0 U1) => show U1.cell? ⟨X, 0, none⟩ = some (.int .i64 J.t) ∧ U1.cell? ⟨X, 1, none⟩ = some (.int .i64 J.o) ∧ U1.cell? ⟨X, 2, none⟩ = some (.int .i64 J.s) ∧ U1.cell? ⟨X, 3, none⟩ = some (.int .i64 J.q) ∧ U1.cell? ⟨X, 4, none⟩ = some (.int .i64 J.m) ∧ U1.cell? ⟨X, 5, none⟩ = some (.int .i64 J.p) ∧ U1.cell? ⟨X, 6, none⟩ = some (.slice J.pA J.pn J.pc) ∧ U1.cell? ⟨X, 7, none⟩ = some (.slice J.tA J.tn J.tc) from by have := B1.out.only oo (by simp); exact ⟨this.cell 0, this.cell 1, this.cell 2, this.cell 3, this.cell 4, this.cell 5, this.cell 6, this.cell 7⟩)
                    have CJ := hide (fun U1 (oo : Only [] V0 U1) => checkjob_any J U1 (JA.out U1 (O1.out.trans0 oo)))
                    have RJ := hide (fun U1 (oo : Only [] V0 U1) => rcheckjob_any J U1 (JA.out U1 (O1.out.trans0 oo)))
                    unfold jobV at CJ RJ
                    obtain ⟨je, hje⟩ : ∃ x, jobE J = x := ⟨_, rfl⟩
                    rw [hje] at CJ RJ
                    rw [hV] at OV KX CJ RJ ⊢
                    clear hje hV
                    refine wp_region_held_drew (S := (fun U1 => Only [] V U1)) (by kernel_rfl) ((Only.refl _ V).drew) (fun hHeld => ?_)
                    revert hHeld
                    generalize V.drew = u0
                    intro hHeld
                    refine wpAnyH_take (i := 0) (oi := ⟨some 68, _, _, _, _, _⟩) (v := ?vlaa1) rfl (by kernel_rfl) (by kernel_rfl) (by kernel_rfl) (fun _ _ _ h => h) (Or.inl ⟨by rfl, ?hylaa1⟩) (by assumption) ?restlaa1
                    case hylaa1 => (intro V hSw; (try dsimp only at hSw); obtain ⟨y0, y1, y2, y3, y4, y5, y6, y7⟩ := KX.out V hSw; go_simp; first | done | (with_reducible rfl))
                    try simp only [Act.put, List.setIfInBounds_toArray, List.set_cons_zero, List.set_cons_succ]
                    refine wpAnyH_take (i := 3) (oi := ⟨some 71, _, _, _, _, _⟩) (v := ?vlaa2) rfl (by kernel_rfl) (by kernel_rfl) (by kernel_rfl) (fun _ _ _ h => h) (Or.inl ⟨by rfl, ?hylaa2⟩) (by assumption) ?restlaa2
                    case hylaa2 => (intro V hSw; (try dsimp only at hSw); obtain ⟨y0, y1, y2, y3, y4, y5, y6, y7⟩ := KX.out V hSw; go_simp; first | done | (with_reducible rfl))
                    try simp only [Act.put, List.setIfInBounds_toArray, List.set_cons_zero, List.set_cons_succ]
                    refine wpAnyH_ready (rs := [1]) (by kernel_rfl) (by simp) ?_
                    refine AllReadyH.cons (o := ⟨some 69, _, _, _, _, _⟩) rfl (fun K hK => ?_) (AllReadyH.nil)
                    rw [if_pos (by rfl)]
                    go_simp
                    (with_reducible refine (CJ.out _ hHeld).mono ?_); rintro e u1 ⟨rfl, o'⟩; have OS := hide (show Only [] V u1 from (show Only [] V u0 from hHeld).trans0 o'); clear o'
                    try dsimp only
                    refine hK.out _ _ (OS.out) (fun hHeld => ?_)
                    clear hK K
                    try simp only [Act.put, List.setIfInBounds_toArray, List.set_cons_zero, List.set_cons_succ]
                    refine wpAnyH_ready (rs := [2]) (by kernel_rfl) (by simp) ?_
                    refine AllReadyH.cons (o := ⟨some 70, _, _, _, _, _⟩) rfl (fun K hK => ?_) (AllReadyH.nil)
                    rw [if_pos (by rfl)]
                    go_simp
                    (with_reducible refine (num_any _ _).mono ?_); rintro e u2 ⟨rfl, hu⟩; have OS := hide (show Only [] V u2 from by rw [hu]; exact (show Only [] V u1 from hHeld)); clear hu
                    try dsimp only
                    refine hK.out _ _ (OS.out) (fun hHeld => ?_)
                    clear hK K
                    try simp only [Act.put, List.setIfInBounds_toArray, List.set_cons_zero, List.set_cons_succ]
                    refine wpAnyH_ready (rs := [4]) (by kernel_rfl) (by simp) ?_
                    refine AllReadyH.cons (o := ⟨some 72, _, _, _, _, _⟩) rfl (fun K hK => ?_) (AllReadyH.nil)
                    rw [if_pos (by rfl)]
                    go_simp
                    (with_reducible refine (RJ.out _ hHeld).mono ?_); rintro e u3 ⟨rfl, o'⟩; have OS := hide (show Only [] V u3 from (show Only [] V u2 from hHeld).trans0 o'); clear o'
                    try dsimp only
                    refine hK.out _ _ (OS.out) (fun hHeld => ?_)
                    clear hK K
                    try simp only [Act.put, List.setIfInBounds_toArray, List.set_cons_zero, List.set_cons_succ]
                    refine wpAnyH_take (i := 5) (oi := ⟨some 73, _, _, _, _, _⟩) (v := ?vlaa3) rfl (by kernel_rfl) (by kernel_rfl) (by kernel_rfl) (fun _ _ _ h => h) (Or.inl ⟨by rfl, ?hylaa3⟩) (by assumption) ?restlaa3
                    case hylaa3 => (intro V hSw; (try dsimp only at hSw); go_simp; first | done | (with_reducible rfl))
                    try simp only [Act.put, List.setIfInBounds_toArray, List.set_cons_zero, List.set_cons_succ]
                    refine wpAnyH_take (i := 6) (oi := ⟨some 74, _, _, _, _, _⟩) (v := ?vlaa4) rfl (by kernel_rfl) (by kernel_rfl) (by kernel_rfl) (fun _ _ _ h => h) (Or.inl ⟨by rfl, ?hylaa4⟩) (by assumption) ?restlaa4
                    case hylaa4 => (intro V hSw; (try dsimp only at hSw); go_simp; first | done | (with_reducible rfl))
                    try simp only [Act.put, List.setIfInBounds_toArray, List.set_cons_zero, List.set_cons_succ]
                    refine wpAnyH_ready (rs := [7]) (by kernel_rfl) (by simp) ?_
                    refine AllReadyH.cons (o := ⟨some 75, _, _, _, _, _⟩) rfl (fun K hK => ?_) (AllReadyH.nil)
                    rw [if_pos (by rfl)]
                    go_simp
                    (with_reducible refine (KN.out _ (OV.out.trans0 (show Only [] V u3 from hHeld))).mono ?_); rintro e u4 ⟨rfl, o'⟩; have OS := hide (show Only [] V u4 from (show Only [] V u3 from hHeld).trans0 o'); clear o'
                    try dsimp only
                    refine hK.out _ _ (OS.out) (fun hHeld => ?_)
                    clear hK K
                    try simp only [Act.put, List.setIfInBounds_toArray, List.set_cons_zero, List.set_cons_succ]
                    refine wpAnyH_take (i := 8) (oi := ⟨some 76, _, _, _, _, _⟩) (v := ?vlaa5) rfl (by kernel_rfl) (by kernel_rfl) (by kernel_rfl) (fun _ _ _ h => h) (Or.inl ⟨by rfl, ?hylaa5⟩) (by assumption) ?restlaa5
                    case hylaa5 => (intro V hSw; (try dsimp only at hSw); go_simp; first | done | (with_reducible rfl))
                    try simp only [Act.put, List.setIfInBounds_toArray, List.set_cons_zero, List.set_cons_succ]
                    refine wpAnyH_take (i := 9) (oi := ⟨some 2, _, _, _, _, _⟩) (v := ?vlaa6) rfl (by kernel_rfl) (by kernel_rfl) (by kernel_rfl) (fun _ _ _ h => h) (Or.inl ⟨by rfl, ?hylaa6⟩) (by assumption) ?restlaa6
                    case hylaa6 => (intro V hSw; (try dsimp only at hSw); go_simp; first | done | (with_reducible rfl))
                    try simp only [Act.put, List.setIfInBounds_toArray, List.set_cons_zero, List.set_cons_succ]
                    refine wpAnyH_done (by kernel_rfl) ?_ _
                    have O9 := hide (OV.out.trans0 OS.out)
                    clear hHeld OS KX
                    go_wp2_with fail
                    go_ret
                    exact ⟨rfl, O9.out⟩
            · clear hgo
              by_cases p0 : (9000 : Int) < x
              · have t0 : decide ((9000 : Int) < x) = true := decide_eq_true (by omega)
                clear p0
                go_wp2_with (go_at_call 6; (with_reducible refine (KN.out _ OW.out).mono ?_); rintro e w1 ⟨rfl, o⟩; have O2 := hide (OW.out.trans0 o); clear o)
                go_ret
                exact ⟨rfl, O2.out⟩
              · by_cases p1 : 100 < J.pn
                · have t0 : decide ((9000 : Int) < x) = false := decide_eq_false (by omega)
                  have t1 : decide ((100 : Int) < (J.pn : Int)) = true := decide_eq_true (by omega)
                  have s1 : decide (100 < J.pn) = true := decide_eq_true (by omega)
                  clear p0 p1
                  go_wp2_with (go_at_call 6; (with_reducible refine (KN.out _ OW.out).mono ?_); rintro e w1 ⟨rfl, o⟩; have O2 := hide (OW.out.trans0 o); clear o)
                  go_ret
                  exact ⟨rfl, O2.out⟩
                · by_cases p2 : 100 < J.tn
                  · have t0 : decide ((9000 : Int) < x) = false := decide_eq_false (by omega)
                    have t1 : decide ((100 : Int) < (J.pn : Int)) = false := decide_eq_false (by omega)
                    have s1 : decide (100 < J.pn) = false := decide_eq_false (by omega)
                    have t2 : decide ((100 : Int) < (J.tn : Int)) = true := decide_eq_true (by omega)
                    have s2 : decide (100 < J.tn) = true := decide_eq_true (by omega)
                    clear p0 p1 p2
                    go_wp2_with (go_at_call 6; (with_reducible refine (KN.out _ OW.out).mono ?_); rintro e w1 ⟨rfl, o⟩; have O2 := hide (OW.out.trans0 o); clear o)
                    go_ret
                    exact ⟨rfl, O2.out⟩
                  · have t0 : decide ((9000 : Int) < x) = false := decide_eq_false (by omega)
                    have t1 : decide ((100 : Int) < (J.pn : Int)) = false := decide_eq_false (by omega)
                    have s1 : decide (100 < J.pn) = false := decide_eq_false (by omega)
                    have t2 : decide ((100 : Int) < (J.tn : Int)) = false := decide_eq_false (by omega)
                    have s2 : decide (100 < J.tn) = false := decide_eq_false (by omega)
                    clear p0 p1 p2
                    go_wp2_with fail
                    obtain ⟨V, hV⟩ : ∃ V, V0 = V := ⟨_, rfl⟩
                    have OV := O1
                    have KX := hide (fun U1 (oo : Only [] V0 U1) => show U1.cell? ⟨X, 0, none⟩ = some (.int .i64 J.t) ∧ U1.cell? ⟨X, 1, none⟩ = some (.int .i64 J.o) ∧ U1.cell? ⟨X, 2, none⟩ = some (.int .i64 J.s) ∧ U1.cell? ⟨X, 3, none⟩ = some (.int .i64 J.q) ∧ U1.cell? ⟨X, 4, none⟩ = some (.int .i64 J.m) ∧ U1.cell? ⟨X, 5, none⟩ = some (.int .i64 J.p) ∧ U1.cell? ⟨X, 6, none⟩ = some (.slice J.pA J.pn J.pc) ∧ U1.cell? ⟨X, 7, none⟩ = some (.slice J.tA J.tn J.tc) from by have := B1.out.only oo (by simp); exact ⟨this.cell 0, this.cell 1, this.cell 2, this.cell 3, this.cell 4, this.cell 5, this.cell 6, this.cell 7⟩)
                    have CJ := hide (fun U1 (oo : Only [] V0 U1) => checkjob_any J U1 (JA.out U1 (O1.out.trans0 oo)))
                    have RJ := hide (fun U1 (oo : Only [] V0 U1) => rcheckjob_any J U1 (JA.out U1 (O1.out.trans0 oo)))
                    unfold jobV at CJ RJ
                    obtain ⟨je, hje⟩ : ∃ x, jobE J = x := ⟨_, rfl⟩
                    rw [hje] at CJ RJ
                    rw [hV] at OV KX CJ RJ ⊢
                    clear hje hV
                    refine wp_region_held_drew (S := (fun U1 => Only [] V U1)) (by kernel_rfl) ((Only.refl _ V).drew) (fun hHeld => ?_)
                    revert hHeld
                    generalize V.drew = u0
                    intro hHeld
                    refine wpAnyH_take (i := 0) (oi := ⟨some 68, _, _, _, _, _⟩) (v := ?vlab1) rfl (by kernel_rfl) (by kernel_rfl) (by kernel_rfl) (fun _ _ _ h => h) (Or.inl ⟨by rfl, ?hylab1⟩) (by assumption) ?restlab1
                    case hylab1 => (intro V hSw; (try dsimp only at hSw); obtain ⟨y0, y1, y2, y3, y4, y5, y6, y7⟩ := KX.out V hSw; go_simp; first | done | (with_reducible rfl))
                    try simp only [Act.put, List.setIfInBounds_toArray, List.set_cons_zero, List.set_cons_succ]
                    refine wpAnyH_take (i := 3) (oi := ⟨some 71, _, _, _, _, _⟩) (v := ?vlab2) rfl (by kernel_rfl) (by kernel_rfl) (by kernel_rfl) (fun _ _ _ h => h) (Or.inl ⟨by rfl, ?hylab2⟩) (by assumption) ?restlab2
                    case hylab2 => (intro V hSw; (try dsimp only at hSw); obtain ⟨y0, y1, y2, y3, y4, y5, y6, y7⟩ := KX.out V hSw; go_simp; first | done | (with_reducible rfl))
                    try simp only [Act.put, List.setIfInBounds_toArray, List.set_cons_zero, List.set_cons_succ]
                    refine wpAnyH_ready (rs := [1]) (by kernel_rfl) (by simp) ?_
                    refine AllReadyH.cons (o := ⟨some 69, _, _, _, _, _⟩) rfl (fun K hK => ?_) (AllReadyH.nil)
                    rw [if_pos (by rfl)]
                    go_simp
                    (with_reducible refine (CJ.out _ hHeld).mono ?_); rintro e u1 ⟨rfl, o'⟩; have OS := hide (show Only [] V u1 from (show Only [] V u0 from hHeld).trans0 o'); clear o'
                    try dsimp only
                    refine hK.out _ _ (OS.out) (fun hHeld => ?_)
                    clear hK K
                    try simp only [Act.put, List.setIfInBounds_toArray, List.set_cons_zero, List.set_cons_succ]
                    refine wpAnyH_ready (rs := [2]) (by kernel_rfl) (by simp) ?_
                    refine AllReadyH.cons (o := ⟨some 70, _, _, _, _, _⟩) rfl (fun K hK => ?_) (AllReadyH.nil)
                    rw [if_pos (by rfl)]
                    go_simp
                    (with_reducible refine (num_any _ _).mono ?_); rintro e u2 ⟨rfl, hu⟩; have OS := hide (show Only [] V u2 from by rw [hu]; exact (show Only [] V u1 from hHeld)); clear hu
                    try dsimp only
                    refine hK.out _ _ (OS.out) (fun hHeld => ?_)
                    clear hK K
                    try simp only [Act.put, List.setIfInBounds_toArray, List.set_cons_zero, List.set_cons_succ]
                    refine wpAnyH_ready (rs := [4]) (by kernel_rfl) (by simp) ?_
                    refine AllReadyH.cons (o := ⟨some 72, _, _, _, _, _⟩) rfl (fun K hK => ?_) (AllReadyH.nil)
                    rw [if_pos (by rfl)]
                    go_simp
                    (with_reducible refine (RJ.out _ hHeld).mono ?_); rintro e u3 ⟨rfl, o'⟩; have OS := hide (show Only [] V u3 from (show Only [] V u2 from hHeld).trans0 o'); clear o'
                    try dsimp only
                    refine hK.out _ _ (OS.out) (fun hHeld => ?_)
                    clear hK K
                    try simp only [Act.put, List.setIfInBounds_toArray, List.set_cons_zero, List.set_cons_succ]
                    refine wpAnyH_take (i := 5) (oi := ⟨some 73, _, _, _, _, _⟩) (v := ?vlab3) rfl (by kernel_rfl) (by kernel_rfl) (by kernel_rfl) (fun _ _ _ h => h) (Or.inl ⟨by rfl, ?hylab3⟩) (by assumption) ?restlab3
                    case hylab3 => (intro V hSw; (try dsimp only at hSw); go_simp; first | done | (with_reducible rfl))
                    try simp only [Act.put, List.setIfInBounds_toArray, List.set_cons_zero, List.set_cons_succ]
                    refine wpAnyH_take (i := 6) (oi := ⟨some 74, _, _, _, _, _⟩) (v := ?vlab4) rfl (by kernel_rfl) (by kernel_rfl) (by kernel_rfl) (fun _ _ _ h => h) (Or.inl ⟨by rfl, ?hylab4⟩) (by assumption) ?restlab4
                    case hylab4 => (intro V hSw; (try dsimp only at hSw); go_simp; first | done | (with_reducible rfl))
                    try simp only [Act.put, List.setIfInBounds_toArray, List.set_cons_zero, List.set_cons_succ]
                    refine wpAnyH_ready (rs := [7]) (by kernel_rfl) (by simp) ?_
                    refine AllReadyH.cons (o := ⟨some 75, _, _, _, _, _⟩) rfl (fun K hK => ?_) (AllReadyH.nil)
                    rw [if_pos (by rfl)]
                    go_simp
                    (with_reducible refine (KN.out _ (OV.out.trans0 (show Only [] V u3 from hHeld))).mono ?_); rintro e u4 ⟨rfl, o'⟩; have OS := hide (show Only [] V u4 from (show Only [] V u3 from hHeld).trans0 o'); clear o'
                    try dsimp only
                    refine hK.out _ _ (OS.out) (fun hHeld => ?_)
                    clear hK K
                    try simp only [Act.put, List.setIfInBounds_toArray, List.set_cons_zero, List.set_cons_succ]
                    refine wpAnyH_take (i := 8) (oi := ⟨some 76, _, _, _, _, _⟩) (v := ?vlab5) rfl (by kernel_rfl) (by kernel_rfl) (by kernel_rfl) (fun _ _ _ h => h) (Or.inl ⟨by rfl, ?hylab5⟩) (by assumption) ?restlab5
                    case hylab5 => (intro V hSw; (try dsimp only at hSw); go_simp; first | done | (with_reducible rfl))
                    try simp only [Act.put, List.setIfInBounds_toArray, List.set_cons_zero, List.set_cons_succ]
                    refine wpAnyH_take (i := 9) (oi := ⟨some 2, _, _, _, _, _⟩) (v := ?vlab6) rfl (by kernel_rfl) (by kernel_rfl) (by kernel_rfl) (fun _ _ _ h => h) (Or.inl ⟨by rfl, ?hylab6⟩) (by assumption) ?restlab6
                    case hylab6 => (intro V hSw; (try dsimp only at hSw); go_simp; first | done | (with_reducible rfl))
                    try simp only [Act.put, List.setIfInBounds_toArray, List.set_cons_zero, List.set_cons_succ]
                    refine wpAnyH_done (by kernel_rfl) ?_ _
                    have O9 := hide (OV.out.trans0 OS.out)
                    clear hHeld OS KX
                    go_wp2_with fail
                    go_ret
                    exact ⟨rfl, O9.out⟩
      · clear hgo
        go_wp2_with fail
        go_loopw [3, 5] (fun v3 v5 wr => ∃ (x : Int) (q : Nat), q ≤ J.tn ∧ v3 = .int .i64 x ∧ v5 = .int .i64 q ∧ V0 = wr) (fun _ v5 _ => J.tn - (intOf v5).toNat)
        case atStart => exact ⟨_, 0, by omega, rfl, rfl, (by first | rfl | trivial)⟩
        case round =>
          obtain ⟨x, r, hr, rfl, rfl, hw⟩ := hrel
          obtain rfl := hw
          have y7 := B1.out.cell 7
          by_cases hgo : r < J.tn ∧ r < 100
          · obtain ⟨a, hA, m0⟩ := HT.out r hgo.1
            rw [hA] at y7
            have c0 := O1.out.keep0 m0
            have j0 : (0 : Int) ≤ (r : Int) := by omega
            have j1 : (r : Int) < (J.tn : Int) := by omega
            have j2 : (r : Int) < 100 := by omega
            have hq1 := hgo.1
            clear m0 hA hgo hA1
            go_wp2_with fail
            go_roundw
            case rel => exact ⟨_, r + 1, by omega, rfl, by go_num, (by first | rfl | trivial)⟩
            case measure => simp [intOf]; omega
          · have hend : ∀ b : Bool, True := fun _ => trivial
            have OW := O1
            clear hA1
            rcases (show ((r : Int) < (J.tn : Int) ∧ ¬ ((r : Int) < 100)) ∨ ¬ ((r : Int) < (J.tn : Int)) from by omega) with ⟨hB1, hB2⟩ | hB1
            · clear hgo
              by_cases p0 : (9000 : Int) < x
              · have t0 : decide ((9000 : Int) < x) = true := decide_eq_true (by omega)
                clear p0
                go_wp2_with (go_at_call 6; (with_reducible refine (KN.out _ OW.out).mono ?_); rintro e w1 ⟨rfl, o⟩; have O2 := hide (OW.out.trans0 o); clear o)
                go_ret
                exact ⟨rfl, O2.out⟩
              · by_cases p1 : 100 < J.pn
                · have t0 : decide ((9000 : Int) < x) = false := decide_eq_false (by omega)
                  have t1 : decide ((100 : Int) < (J.pn : Int)) = true := decide_eq_true (by omega)
                  have s1 : decide (100 < J.pn) = true := decide_eq_true (by omega)
                  clear p0 p1
                  go_wp2_with (go_at_call 6; (with_reducible refine (KN.out _ OW.out).mono ?_); rintro e w1 ⟨rfl, o⟩; have O2 := hide (OW.out.trans0 o); clear o)
                  go_ret
                  exact ⟨rfl, O2.out⟩
                · by_cases p2 : 100 < J.tn
                  · have t0 : decide ((9000 : Int) < x) = false := decide_eq_false (by omega)
                    have t1 : decide ((100 : Int) < (J.pn : Int)) = false := decide_eq_false (by omega)
                    have s1 : decide (100 < J.pn) = false := decide_eq_false (by omega)
                    have t2 : decide ((100 : Int) < (J.tn : Int)) = true := decide_eq_true (by omega)
                    have s2 : decide (100 < J.tn) = true := decide_eq_true (by omega)
                    clear p0 p1 p2
                    go_wp2_with (go_at_call 6; (with_reducible refine (KN.out _ OW.out).mono ?_); rintro e w1 ⟨rfl, o⟩; have O2 := hide (OW.out.trans0 o); clear o)
                    go_ret
                    exact ⟨rfl, O2.out⟩
                  · have t0 : decide ((9000 : Int) < x) = false := decide_eq_false (by omega)
                    have t1 : decide ((100 : Int) < (J.pn : Int)) = false := decide_eq_false (by omega)
                    have s1 : decide (100 < J.pn) = false := decide_eq_false (by omega)
                    have t2 : decide ((100 : Int) < (J.tn : Int)) = false := decide_eq_false (by omega)
                    have s2 : decide (100 < J.tn) = false := decide_eq_false (by omega)
                    clear p0 p1 p2
                    go_wp2_with fail
                    obtain ⟨V, hV⟩ : ∃ V, V0 = V := ⟨_, rfl⟩
                    have OV := O1
                    have KX := hide (fun U1 (oo : Only [] V0 U1) => show U1.cell? ⟨X, 0, none⟩ = some (.int .i64 J.t) ∧ U1.cell? ⟨X, 1, none⟩ = some (.int .i64 J.o) ∧ U1.cell? ⟨X, 2, none⟩ = some (.int .i64 J.s) ∧ U1.cell? ⟨X, 3, none⟩ = some (.int .i64 J.q) ∧ U1.cell? ⟨X, 4, none⟩ = some (.int .i64 J.m) ∧ U1.cell? ⟨X, 5, none⟩ = some (.int .i64 J.p) ∧ U1.cell? ⟨X, 6, none⟩ = some (.slice J.pA J.pn J.pc) ∧ U1.cell? ⟨X, 7, none⟩ = some (.slice J.tA J.tn J.tc) from by have := B1.out.only oo (by simp); exact ⟨this.cell 0, this.cell 1, this.cell 2, this.cell 3, this.cell 4, this.cell 5, this.cell 6, this.cell 7⟩)
                    have CJ := hide (fun U1 (oo : Only [] V0 U1) => checkjob_any J U1 (JA.out U1 (O1.out.trans0 oo)))
                    have RJ := hide (fun U1 (oo : Only [] V0 U1) => rcheckjob_any J U1 (JA.out U1 (O1.out.trans0 oo)))
                    unfold jobV at CJ RJ
                    obtain ⟨je, hje⟩ : ∃ x, jobE J = x := ⟨_, rfl⟩
                    rw [hje] at CJ RJ
                    rw [hV] at OV KX CJ RJ ⊢
                    clear hje hV
                    refine wp_region_held_drew (S := (fun U1 => Only [] V U1)) (by kernel_rfl) ((Only.refl _ V).drew) (fun hHeld => ?_)
                    revert hHeld
                    generalize V.drew = u0
                    intro hHeld
                    refine wpAnyH_take (i := 0) (oi := ⟨some 68, _, _, _, _, _⟩) (v := ?vlba1) rfl (by kernel_rfl) (by kernel_rfl) (by kernel_rfl) (fun _ _ _ h => h) (Or.inl ⟨by rfl, ?hylba1⟩) (by assumption) ?restlba1
                    case hylba1 => (intro V hSw; (try dsimp only at hSw); obtain ⟨y0, y1, y2, y3, y4, y5, y6, y7⟩ := KX.out V hSw; go_simp; first | done | (with_reducible rfl))
                    try simp only [Act.put, List.setIfInBounds_toArray, List.set_cons_zero, List.set_cons_succ]
                    refine wpAnyH_take (i := 3) (oi := ⟨some 71, _, _, _, _, _⟩) (v := ?vlba2) rfl (by kernel_rfl) (by kernel_rfl) (by kernel_rfl) (fun _ _ _ h => h) (Or.inl ⟨by rfl, ?hylba2⟩) (by assumption) ?restlba2
                    case hylba2 => (intro V hSw; (try dsimp only at hSw); obtain ⟨y0, y1, y2, y3, y4, y5, y6, y7⟩ := KX.out V hSw; go_simp; first | done | (with_reducible rfl))
                    try simp only [Act.put, List.setIfInBounds_toArray, List.set_cons_zero, List.set_cons_succ]
                    refine wpAnyH_ready (rs := [1]) (by kernel_rfl) (by simp) ?_
                    refine AllReadyH.cons (o := ⟨some 69, _, _, _, _, _⟩) rfl (fun K hK => ?_) (AllReadyH.nil)
                    rw [if_pos (by rfl)]
                    go_simp
                    (with_reducible refine (CJ.out _ hHeld).mono ?_); rintro e u1 ⟨rfl, o'⟩; have OS := hide (show Only [] V u1 from (show Only [] V u0 from hHeld).trans0 o'); clear o'
                    try dsimp only
                    refine hK.out _ _ (OS.out) (fun hHeld => ?_)
                    clear hK K
                    try simp only [Act.put, List.setIfInBounds_toArray, List.set_cons_zero, List.set_cons_succ]
                    refine wpAnyH_ready (rs := [2]) (by kernel_rfl) (by simp) ?_
                    refine AllReadyH.cons (o := ⟨some 70, _, _, _, _, _⟩) rfl (fun K hK => ?_) (AllReadyH.nil)
                    rw [if_pos (by rfl)]
                    go_simp
                    (with_reducible refine (num_any _ _).mono ?_); rintro e u2 ⟨rfl, hu⟩; have OS := hide (show Only [] V u2 from by rw [hu]; exact (show Only [] V u1 from hHeld)); clear hu
                    try dsimp only
                    refine hK.out _ _ (OS.out) (fun hHeld => ?_)
                    clear hK K
                    try simp only [Act.put, List.setIfInBounds_toArray, List.set_cons_zero, List.set_cons_succ]
                    refine wpAnyH_ready (rs := [4]) (by kernel_rfl) (by simp) ?_
                    refine AllReadyH.cons (o := ⟨some 72, _, _, _, _, _⟩) rfl (fun K hK => ?_) (AllReadyH.nil)
                    rw [if_pos (by rfl)]
                    go_simp
                    (with_reducible refine (RJ.out _ hHeld).mono ?_); rintro e u3 ⟨rfl, o'⟩; have OS := hide (show Only [] V u3 from (show Only [] V u2 from hHeld).trans0 o'); clear o'
                    try dsimp only
                    refine hK.out _ _ (OS.out) (fun hHeld => ?_)
                    clear hK K
                    try simp only [Act.put, List.setIfInBounds_toArray, List.set_cons_zero, List.set_cons_succ]
                    refine wpAnyH_take (i := 5) (oi := ⟨some 73, _, _, _, _, _⟩) (v := ?vlba3) rfl (by kernel_rfl) (by kernel_rfl) (by kernel_rfl) (fun _ _ _ h => h) (Or.inl ⟨by rfl, ?hylba3⟩) (by assumption) ?restlba3
                    case hylba3 => (intro V hSw; (try dsimp only at hSw); go_simp; first | done | (with_reducible rfl))
                    try simp only [Act.put, List.setIfInBounds_toArray, List.set_cons_zero, List.set_cons_succ]
                    refine wpAnyH_take (i := 6) (oi := ⟨some 74, _, _, _, _, _⟩) (v := ?vlba4) rfl (by kernel_rfl) (by kernel_rfl) (by kernel_rfl) (fun _ _ _ h => h) (Or.inl ⟨by rfl, ?hylba4⟩) (by assumption) ?restlba4
                    case hylba4 => (intro V hSw; (try dsimp only at hSw); go_simp; first | done | (with_reducible rfl))
                    try simp only [Act.put, List.setIfInBounds_toArray, List.set_cons_zero, List.set_cons_succ]
                    refine wpAnyH_ready (rs := [7]) (by kernel_rfl) (by simp) ?_
                    refine AllReadyH.cons (o := ⟨some 75, _, _, _, _, _⟩) rfl (fun K hK => ?_) (AllReadyH.nil)
                    rw [if_pos (by rfl)]
                    go_simp
                    (with_reducible refine (KN.out _ (OV.out.trans0 (show Only [] V u3 from hHeld))).mono ?_); rintro e u4 ⟨rfl, o'⟩; have OS := hide (show Only [] V u4 from (show Only [] V u3 from hHeld).trans0 o'); clear o'
                    try dsimp only
                    refine hK.out _ _ (OS.out) (fun hHeld => ?_)
                    clear hK K
                    try simp only [Act.put, List.setIfInBounds_toArray, List.set_cons_zero, List.set_cons_succ]
                    refine wpAnyH_take (i := 8) (oi := ⟨some 76, _, _, _, _, _⟩) (v := ?vlba5) rfl (by kernel_rfl) (by kernel_rfl) (by kernel_rfl) (fun _ _ _ h => h) (Or.inl ⟨by rfl, ?hylba5⟩) (by assumption) ?restlba5
                    case hylba5 => (intro V hSw; (try dsimp only at hSw); go_simp; first | done | (with_reducible rfl))
                    try simp only [Act.put, List.setIfInBounds_toArray, List.set_cons_zero, List.set_cons_succ]
                    refine wpAnyH_take (i := 9) (oi := ⟨some 2, _, _, _, _, _⟩) (v := ?vlba6) rfl (by kernel_rfl) (by kernel_rfl) (by kernel_rfl) (fun _ _ _ h => h) (Or.inl ⟨by rfl, ?hylba6⟩) (by assumption) ?restlba6
                    case hylba6 => (intro V hSw; (try dsimp only at hSw); go_simp; first | done | (with_reducible rfl))
                    try simp only [Act.put, List.setIfInBounds_toArray, List.set_cons_zero, List.set_cons_succ]
                    refine wpAnyH_done (by kernel_rfl) ?_ _
                    have O9 := hide (OV.out.trans0 OS.out)
                    clear hHeld OS KX
                    go_wp2_with fail
                    go_ret
                    exact ⟨rfl, O9.out⟩
            · clear hgo
              by_cases p0 : (9000 : Int) < x
              · have t0 : decide ((9000 : Int) < x) = true := decide_eq_true (by omega)
                clear p0
                go_wp2_with (go_at_call 6; (with_reducible refine (KN.out _ OW.out).mono ?_); rintro e w1 ⟨rfl, o⟩; have O2 := hide (OW.out.trans0 o); clear o)
                go_ret
                exact ⟨rfl, O2.out⟩
              · by_cases p1 : 100 < J.pn
                · have t0 : decide ((9000 : Int) < x) = false := decide_eq_false (by omega)
                  have t1 : decide ((100 : Int) < (J.pn : Int)) = true := decide_eq_true (by omega)
                  have s1 : decide (100 < J.pn) = true := decide_eq_true (by omega)
                  clear p0 p1
                  go_wp2_with (go_at_call 6; (with_reducible refine (KN.out _ OW.out).mono ?_); rintro e w1 ⟨rfl, o⟩; have O2 := hide (OW.out.trans0 o); clear o)
                  go_ret
                  exact ⟨rfl, O2.out⟩
                · by_cases p2 : 100 < J.tn
                  · have t0 : decide ((9000 : Int) < x) = false := decide_eq_false (by omega)
                    have t1 : decide ((100 : Int) < (J.pn : Int)) = false := decide_eq_false (by omega)
                    have s1 : decide (100 < J.pn) = false := decide_eq_false (by omega)
                    have t2 : decide ((100 : Int) < (J.tn : Int)) = true := decide_eq_true (by omega)
                    have s2 : decide (100 < J.tn) = true := decide_eq_true (by omega)
                    clear p0 p1 p2
                    go_wp2_with (go_at_call 6; (with_reducible refine (KN.out _ OW.out).mono ?_); rintro e w1 ⟨rfl, o⟩; have O2 := hide (OW.out.trans0 o); clear o)
                    go_ret
                    exact ⟨rfl, O2.out⟩
                  · have t0 : decide ((9000 : Int) < x) = false := decide_eq_false (by omega)
                    have t1 : decide ((100 : Int) < (J.pn : Int)) = false := decide_eq_false (by omega)
                    have s1 : decide (100 < J.pn) = false := decide_eq_false (by omega)
                    have t2 : decide ((100 : Int) < (J.tn : Int)) = false := decide_eq_false (by omega)
                    have s2 : decide (100 < J.tn) = false := decide_eq_false (by omega)
                    clear p0 p1 p2
                    go_wp2_with fail
                    obtain ⟨V, hV⟩ : ∃ V, V0 = V := ⟨_, rfl⟩
                    have OV := O1
                    have KX := hide (fun U1 (oo : Only [] V0 U1) => show U1.cell? ⟨X, 0, none⟩ = some (.int .i64 J.t) ∧ U1.cell? ⟨X, 1, none⟩ = some (.int .i64 J.o) ∧ U1.cell? ⟨X, 2, none⟩ = some (.int .i64 J.s) ∧ U1.cell? ⟨X, 3, none⟩ = some (.int .i64 J.q) ∧ U1.cell? ⟨X, 4, none⟩ = some (.int .i64 J.m) ∧ U1.cell? ⟨X, 5, none⟩ = some (.int .i64 J.p) ∧ U1.cell? ⟨X, 6, none⟩ = some (.slice J.pA J.pn J.pc) ∧ U1.cell? ⟨X, 7, none⟩ = some (.slice J.tA J.tn J.tc) from by have := B1.out.only oo (by simp); exact ⟨this.cell 0, this.cell 1, this.cell 2, this.cell 3, this.cell 4, this.cell 5, this.cell 6, this.cell 7⟩)
                    have CJ := hide (fun U1 (oo : Only [] V0 U1) => checkjob_any J U1 (JA.out U1 (O1.out.trans0 oo)))
                    have RJ := hide (fun U1 (oo : Only [] V0 U1) => rcheckjob_any J U1 (JA.out U1 (O1.out.trans0 oo)))
                    unfold jobV at CJ RJ
                    obtain ⟨je, hje⟩ : ∃ x, jobE J = x := ⟨_, rfl⟩
                    rw [hje] at CJ RJ
                    rw [hV] at OV KX CJ RJ ⊢
                    clear hje hV
                    refine wp_region_held_drew (S := (fun U1 => Only [] V U1)) (by kernel_rfl) ((Only.refl _ V).drew) (fun hHeld => ?_)
                    revert hHeld
                    generalize V.drew = u0
                    intro hHeld
                    refine wpAnyH_take (i := 0) (oi := ⟨some 68, _, _, _, _, _⟩) (v := ?vlbb1) rfl (by kernel_rfl) (by kernel_rfl) (by kernel_rfl) (fun _ _ _ h => h) (Or.inl ⟨by rfl, ?hylbb1⟩) (by assumption) ?restlbb1
                    case hylbb1 => (intro V hSw; (try dsimp only at hSw); obtain ⟨y0, y1, y2, y3, y4, y5, y6, y7⟩ := KX.out V hSw; go_simp; first | done | (with_reducible rfl))
                    try simp only [Act.put, List.setIfInBounds_toArray, List.set_cons_zero, List.set_cons_succ]
                    refine wpAnyH_take (i := 3) (oi := ⟨some 71, _, _, _, _, _⟩) (v := ?vlbb2) rfl (by kernel_rfl) (by kernel_rfl) (by kernel_rfl) (fun _ _ _ h => h) (Or.inl ⟨by rfl, ?hylbb2⟩) (by assumption) ?restlbb2
                    case hylbb2 => (intro V hSw; (try dsimp only at hSw); obtain ⟨y0, y1, y2, y3, y4, y5, y6, y7⟩ := KX.out V hSw; go_simp; first | done | (with_reducible rfl))
                    try simp only [Act.put, List.setIfInBounds_toArray, List.set_cons_zero, List.set_cons_succ]
                    refine wpAnyH_ready (rs := [1]) (by kernel_rfl) (by simp) ?_
                    refine AllReadyH.cons (o := ⟨some 69, _, _, _, _, _⟩) rfl (fun K hK => ?_) (AllReadyH.nil)
                    rw [if_pos (by rfl)]
                    go_simp
                    (with_reducible refine (CJ.out _ hHeld).mono ?_); rintro e u1 ⟨rfl, o'⟩; have OS := hide (show Only [] V u1 from (show Only [] V u0 from hHeld).trans0 o'); clear o'
                    try dsimp only
                    refine hK.out _ _ (OS.out) (fun hHeld => ?_)
                    clear hK K
                    try simp only [Act.put, List.setIfInBounds_toArray, List.set_cons_zero, List.set_cons_succ]
                    refine wpAnyH_ready (rs := [2]) (by kernel_rfl) (by simp) ?_
                    refine AllReadyH.cons (o := ⟨some 70, _, _, _, _, _⟩) rfl (fun K hK => ?_) (AllReadyH.nil)
                    rw [if_pos (by rfl)]
                    go_simp
                    (with_reducible refine (num_any _ _).mono ?_); rintro e u2 ⟨rfl, hu⟩; have OS := hide (show Only [] V u2 from by rw [hu]; exact (show Only [] V u1 from hHeld)); clear hu
                    try dsimp only
                    refine hK.out _ _ (OS.out) (fun hHeld => ?_)
                    clear hK K
                    try simp only [Act.put, List.setIfInBounds_toArray, List.set_cons_zero, List.set_cons_succ]
                    refine wpAnyH_ready (rs := [4]) (by kernel_rfl) (by simp) ?_
                    refine AllReadyH.cons (o := ⟨some 72, _, _, _, _, _⟩) rfl (fun K hK => ?_) (AllReadyH.nil)
                    rw [if_pos (by rfl)]
                    go_simp
                    (with_reducible refine (RJ.out _ hHeld).mono ?_); rintro e u3 ⟨rfl, o'⟩; have OS := hide (show Only [] V u3 from (show Only [] V u2 from hHeld).trans0 o'); clear o'
                    try dsimp only
                    refine hK.out _ _ (OS.out) (fun hHeld => ?_)
                    clear hK K
                    try simp only [Act.put, List.setIfInBounds_toArray, List.set_cons_zero, List.set_cons_succ]
                    refine wpAnyH_take (i := 5) (oi := ⟨some 73, _, _, _, _, _⟩) (v := ?vlbb3) rfl (by kernel_rfl) (by kernel_rfl) (by kernel_rfl) (fun _ _ _ h => h) (Or.inl ⟨by rfl, ?hylbb3⟩) (by assumption) ?restlbb3
                    case hylbb3 => (intro V hSw; (try dsimp only at hSw); go_simp; first | done | (with_reducible rfl))
                    try simp only [Act.put, List.setIfInBounds_toArray, List.set_cons_zero, List.set_cons_succ]
                    refine wpAnyH_take (i := 6) (oi := ⟨some 74, _, _, _, _, _⟩) (v := ?vlbb4) rfl (by kernel_rfl) (by kernel_rfl) (by kernel_rfl) (fun _ _ _ h => h) (Or.inl ⟨by rfl, ?hylbb4⟩) (by assumption) ?restlbb4
                    case hylbb4 => (intro V hSw; (try dsimp only at hSw); go_simp; first | done | (with_reducible rfl))
                    try simp only [Act.put, List.setIfInBounds_toArray, List.set_cons_zero, List.set_cons_succ]
                    refine wpAnyH_ready (rs := [7]) (by kernel_rfl) (by simp) ?_
                    refine AllReadyH.cons (o := ⟨some 75, _, _, _, _, _⟩) rfl (fun K hK => ?_) (AllReadyH.nil)
                    rw [if_pos (by rfl)]
                    go_simp
                    (with_reducible refine (KN.out _ (OV.out.trans0 (show Only [] V u3 from hHeld))).mono ?_); rintro e u4 ⟨rfl, o'⟩; have OS := hide (show Only [] V u4 from (show Only [] V u3 from hHeld).trans0 o'); clear o'
                    try dsimp only
                    refine hK.out _ _ (OS.out) (fun hHeld => ?_)
                    clear hK K
                    try simp only [Act.put, List.setIfInBounds_toArray, List.set_cons_zero, List.set_cons_succ]
                    refine wpAnyH_take (i := 8) (oi := ⟨some 76, _, _, _, _, _⟩) (v := ?vlbb5) rfl (by kernel_rfl) (by kernel_rfl) (by kernel_rfl) (fun _ _ _ h => h) (Or.inl ⟨by rfl, ?hylbb5⟩) (by assumption) ?restlbb5
                    case hylbb5 => (intro V hSw; (try dsimp only at hSw); go_simp; first | done | (with_reducible rfl))
                    try simp only [Act.put, List.setIfInBounds_toArray, List.set_cons_zero, List.set_cons_succ]
                    refine wpAnyH_take (i := 9) (oi := ⟨some 2, _, _, _, _, _⟩) (v := ?vlbb6) rfl (by kernel_rfl) (by kernel_rfl) (by kernel_rfl) (fun _ _ _ h => h) (Or.inl ⟨by rfl, ?hylbb6⟩) (by assumption) ?restlbb6
                    case hylbb6 => (intro V hSw; (try dsimp only at hSw); go_simp; first | done | (with_reducible rfl))
                    try simp only [Act.put, List.setIfInBounds_toArray, List.set_cons_zero, List.set_cons_succ]
                    refine wpAnyH_done (by kernel_rfl) ?_ _
                    have O9 := hide (OV.out.trans0 OS.out)
                    clear hHeld OS KX
                    go_wp2_with fail
                    go_ret
                    exact ⟨rfl, O9.out⟩
end Go.Proofs.YtmaljajdmgkakaaDoor
