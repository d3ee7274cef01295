/- Turns: the walk of the closure of Move. Condition: the turns lie, the thread is in, the boxes lie. -/
import Derived.Test.YtnndengdlokmbaaTu5
import Derived.Deep.RegionHeld3
namespace Go.Proofs.Ytnndengdlokmbaa
open Go.RowKit
set_option linter.unusedVariables false
set_option linter.all false
set_option maxRecDepth 20000

section
variable (B1 B2 B3 B4 x g : Nat) (Q : Int) (q : Nat → List Nat) (rob : Nat → Bool) (lf : Nat → Int) (st : Int) (hst : 0 ≤ st ∧ st < 800000) (t : Nat) (ht : t < 16) (hin : prioQ q t ≠ 0) (w : World) (h : TT w x g Q q rob lf st)
set_option maxHeartbeats 8000000 in
theorem move_cl (p : Nat) (hst : 0 ≤ st ∧ st < 800000) (ht : t < 16) (h1 : 1 ≤ p) (h2 : p ≤ 31) (hin : prioQ q t ≠ 0) (h : TT w x g Q q rob lf st) (b1 : w.cell? ⟨B1, 0, none⟩ = some (.int .i64 p)) (b2 : w.cell? ⟨B2, 0, none⟩ = some (ptr x)) (b3 : w.cell? ⟨B3, 0, none⟩ = some (.int .i64 t)) (n1 : B1 ∉ [x, g]) (n2 : B2 ∉ [x, g]) (n3 : B3 ∉ [x, g]) :
    Calls Try.prog 56 #[.pointer (some ⟨x, 2 + t * 4, none⟩), .pointer (some ⟨B1, 0, none⟩), .pointer (some ⟨B2, 0, none⟩), .pointer (some ⟨B3, 0, none⟩)] w (CL w x g Q st (if p = prioQ q t then q else moveQ q t p (decide (p < prioQ q t))) rob lf) := by
  have GO := fun n hd => goes_any x g Q q rob lf st (by omega) t p hd ht h1 h2 hin (w.drewN n) h
  have k2 : w.cell? ⟨x, 2 + t * 4 + 2, none⟩ = some (.int .i64 (prioQ q t : Int)) := by
    obtain ⟨⟨cs, hb, hC⟩, _⟩ := h
    exact (hb.cell _).trans (hC.pr t ht)
  have HT := hide h
  obtain ⟨o, ho⟩ : ∃ o, prioQ q t = o := ⟨_, rfl⟩
  rw [ho] at k2 ⊢
  clear ho h hin
  unfold ptr at GO b2
  by_cases hpo : p = o
  · have g1 : ((p : Int) == (o : Int)) = true := by simp [hpo]
    have g2 : ((p : Int) != (o : Int)) = false := by simp [hpo]
    rw [if_pos hpo]
    clear hpo GO
    go_enter Try.func56, Try.ntmps56
    go_wp2_with fail
    go_quiet (fail)
    go_wp2_with fail
    go_end0
    exact ⟨rfl, ⟨st, by omega, by omega, HT.out⟩, wide_only ((Only.refl [] w).drewN _)⟩
  · have g1 : ((p : Int) == (o : Int)) = false := by simp; omega
    have g2 : ((p : Int) != (o : Int)) = true := by simp; omega
    rw [if_neg hpo]
    obtain ⟨hd, hhd⟩ : ∃ hd, decide (p < o) = hd := ⟨_, rfl⟩
    have g3 : decide ((p : Int) < (o : Int)) = hd := by rw [← hhd]; simp
    rw [hhd]
    have GO := hide (fun n => GO n hd)
    clear hpo
    go_enter Try.func56, Try.ntmps56
    go_wp2_with fail
    go_quiet (fail)
    go_wp2_with fail
    refine wp_region_held_drew (S := (fun V => V.cell? ⟨B1, 0, none⟩ = some (.int .i64 p) ∧ V.cell? ⟨B2, 0, none⟩ = some (.pointer (some ⟨x, 0, none⟩)) ∧ V.cell? ⟨B3, 0, none⟩ = some (.int .i64 t))) (by kernel_rfl) ?_ (fun hHeld => ?_)
    · exact ⟨b1, b2, b3⟩
    refine wpAnyH_take (i := 0) (v := ?v0) rfl (by kernel_rfl) (by kernel_rfl) (by kernel_rfl) (fun _ _ _ h => h) (Or.inl ⟨by rfl, ?hy0⟩) (by assumption) ?rest0
    case hy0 => (intro V hSw; (try dsimp only at hSw); obtain ⟨hs1, hs2, hs3⟩ := hSw; go_simp; first | done | (with_reducible rfl))
    try simp only [Act.put, List.setIfInBounds_toArray, List.set_cons_zero, List.set_cons_succ]
    refine wpAnyH_take (i := 1) (v := ?v1) rfl (by kernel_rfl) (by kernel_rfl) (by kernel_rfl) (fun _ _ _ h => h) (Or.inl ⟨by rfl, ?hy1⟩) (by assumption) ?rest1
    case hy1 => (intro V hSw; (try dsimp only at hSw); obtain ⟨hs1, hs2, hs3⟩ := hSw; go_simp; first | done | (with_reducible rfl))
    try simp only [Act.put, List.setIfInBounds_toArray, List.set_cons_zero, List.set_cons_succ]
    refine wpAnyH_take (i := 2) (v := ?v2) rfl (by kernel_rfl) (by kernel_rfl) (by kernel_rfl) (fun _ _ _ h => h) (Or.inl ⟨by rfl, ?hy2⟩) (by assumption) ?rest2
    case hy2 => (intro V hSw; (try dsimp only at hSw); obtain ⟨hs1, hs2, hs3⟩ := hSw; go_simp; first | done | (with_reducible rfl))
    try simp only [Act.put, List.setIfInBounds_toArray, List.set_cons_zero, List.set_cons_succ]
    refine wpAnyH_take (i := 3) (v := ?v3) rfl (by kernel_rfl) (by kernel_rfl) (by kernel_rfl) (fun _ _ _ h => h) (Or.inl ⟨by rfl, ?hy3⟩) (by assumption) ?rest3
    case hy3 => (intro V hSw; (try dsimp only at hSw); obtain ⟨hs1, hs2, hs3⟩ := hSw; go_simp; first | done | (with_reducible rfl))
    try simp only [Act.put, List.setIfInBounds_toArray, List.set_cons_zero, List.set_cons_succ]
    refine wpAnyH_take (i := 4) (v := ?v4) rfl (by kernel_rfl) (by kernel_rfl) (by kernel_rfl) (fun _ _ _ h => h) (Or.inl ⟨by rfl, ?hy4⟩) (by assumption) ?rest4
    case hy4 => (intro V hSw; (try dsimp only at hSw); obtain ⟨hs1, hs2, hs3⟩ := hSw; go_simp; first | done | (with_reducible rfl))
    try simp only [Act.put, List.setIfInBounds_toArray, List.set_cons_zero, List.set_cons_succ]
    refine wpAnyH_take (i := 5) (v := ?v5) rfl (by kernel_rfl) (by kernel_rfl) (by kernel_rfl) (fun _ _ _ h => h) (Or.inl ⟨by rfl, ?hy5⟩) (by assumption) ?rest5
    case hy5 => (intro V hSw; (try dsimp only at hSw); obtain ⟨hs1, hs2, hs3⟩ := hSw; go_simp; first | done | (with_reducible rfl))
    try simp only [Act.put, List.setIfInBounds_toArray, List.set_cons_zero, List.set_cons_succ]
    refine wpAnyH_take (i := 6) (v := ?v6) rfl (by kernel_rfl) (by kernel_rfl) (by kernel_rfl) (fun _ _ _ h => h) (Or.inl ⟨by rfl, ?hy6⟩) (by assumption) ?rest6
    case hy6 => (intro V hSw; (try dsimp only at hSw); obtain ⟨hs1, hs2, hs3⟩ := hSw; go_simp; first | done | (with_reducible rfl))
    try simp only [Act.put, List.setIfInBounds_toArray, List.set_cons_zero, List.set_cons_succ]
    refine wpAnyH_ready (rs := [7]) (by kernel_rfl) (by simp) ?_
    refine AllReadyH.cons rfl (fun K hK => ?_) AllReadyH.nil
    go_simp
    refine hK.out _ _ ⟨b1, b2, b3⟩ (fun hHeld2 => ?_)
    clear hK K hHeld
    try simp only [Act.put, List.setIfInBounds_toArray, List.set_cons_zero, List.set_cons_succ]
    refine wpAnyH_take (i := 8) (v := ?v8) rfl (by kernel_rfl) (by kernel_rfl) (by kernel_rfl) (fun _ _ _ h => h) (Or.inl ⟨by rfl, ?hy8⟩) (by assumption) ?rest8
    case hy8 => (intro V hSw; (try dsimp only at hSw); obtain ⟨hs1, hs2, hs3⟩ := hSw; go_simp; first | done | (with_reducible rfl))
    try simp only [Act.put, List.setIfInBounds_toArray, List.set_cons_zero, List.set_cons_succ]
    refine wpAnyH_ready (rs := [9]) (by kernel_rfl) (by simp) ?_
    refine AllReadyH.cons rfl (fun K hK => ?_) AllReadyH.nil
    go_simp
    refine (GO.out _).mono ?_
    rintro e w2 ⟨rfl, ⟨st2, s1, s2, T2⟩, o2⟩
    have z1 := o2.keep (p := ⟨B1, 0, none⟩) b1 n1
    have z2 := o2.keep (p := ⟨B2, 0, none⟩) b2 n2
    have z3 := o2.keep (p := ⟨B3, 0, none⟩) b3 n3
    try dsimp only
    refine hK.out _ _ ⟨z1, z2, z3⟩ (fun hHeld3 => ?_)
    clear hK K hHeld2 hHeld3
    refine wpAnyH_done (by kernel_rfl) ?_ _
    go_wp2_with fail
    go_end0
    exact ⟨rfl, ⟨st2, s1, s2, T2⟩, (wide_only ((Only.refl [] w).drewN _)).trans' o2⟩
end
end Go.Proofs.Ytnndengdlokmbaa
