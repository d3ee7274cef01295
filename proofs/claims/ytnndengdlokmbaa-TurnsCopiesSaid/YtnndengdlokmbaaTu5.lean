/- Turns: the walks of the five closures. Condition: the turns lie, the thread is in, the boxes lie. -/
import Derived.Test.YtnndengdlokmbaaTu4
import Derived.BigQuiet
namespace Go.Proofs.Ytnndengdlokmbaa
open Go.RowKit
set_option linter.unusedVariables false
set_option linter.all false
set_option maxRecDepth 20000

/-- What a closure leaves. -/
def CL (w : World) (x g : Nat) (Q st : Int) (q : Nat → List Nat) (rob : Nat → Bool) (lf : Nat → Int) (e : Ending) (w' : World) : Prop := e = .returned (.tuple #[]) ∧ (∃ st', st ≤ st' ∧ st' ≤ st + 8 ∧ TT w' x g Q q rob lf st') ∧ Only [x, g] w w'
theorem remQ_prio {w w' : World} {g g' : Nat} {q : Nat → List Nat} {st st' : Int} (h : RL w g q st) {t : Nat} (ht : t < 16) (hz : prioQ q t ≠ 0) (h' : RL w' g' (remQ q t) st') (u : Nat) : prioQ (remQ q t) u = if u = t then 0 else prioQ q u := by
  have hnd : ∀ j, (q j).Nodup := h.facts.2.2.1
  have hrem : ∀ u j, u ∈ remQ q t j ↔ u ≠ t ∧ u ∈ q j := by
    intro u j
    unfold remQ remC
    rw [if_pos (by simp [hz]; omega), Int.toNat_natCast]
    by_cases e : j = prioQ q t
    · subst e
      rw [setq_same, (hnd _).mem_erase_iff]
    · rw [setq_other _ _ e]
      exact ⟨fun hm => ⟨fun e' => e (by subst e'; exact (h.prio_mem hm).symm), hm⟩, fun hm => hm.2⟩
  by_cases e : u = t
  · subst e
    rw [if_pos rfl]
    exact prioQ_zero fun j hj => ((hrem u j).1 hj).1 rfl
  · rw [if_neg e]
    exact h.prio_eq h' (fun j => by rw [hrem u j]; simp [e])
theorem TC.two {cs : Array Value} {g : Nat} {Q : Int} {q : Nat → List Nat} {rob : Nat → Bool} {lf : Nat → Int} (h : TC cs g Q q rob lf) {t : Nat} (rb : Bool) (l : Int) (ht : t < 16) : TC ((cs.setIfInBounds (2 + t * 4 + 1) (.bool rb)).setIfInBounds (2 + t * 4 + 3) (.int .i64 l)) g Q q (updb rob t rb) (upd lf t l) := by
  have hz := h.size
  refine ⟨by simpa using hz, (set_ne (by omega)).trans ((set_ne (by omega)).trans h.r), (set_ne (by omega)).trans ((set_ne (by omega)).trans h.qu), fun u hu => (set_ne (by omega)).trans ((set_ne (by omega)).trans (h.inn u hu)), fun u hu => ?_, fun u hu => (set_ne (by omega)).trans ((set_ne (by omega)).trans (h.pr u hu)), fun u hu => ?_⟩
  · refine (set_ne (by omega)).trans ?_
    by_cases e : u = t
    · subst e; rw [set_eq (by omega)]; simp [updb]
    · rw [set_ne (by omega), h.rob u hu]; simp [updb, e]
  · by_cases e : u = t
    · subst e; rw [set_eq (by simp; omega), upd_same]
    · rw [set_ne (by omega), set_ne (by omega), h.lf u hu, upd_other _ _ e]
section
variable (B1 B2 B3 B4 x g : Nat) (Q : Int) (q : Nat → List Nat) (rob : Nat → Bool) (lf : Nat → Int) (st : Int) (hst : 0 ≤ st ∧ st < 800000) (t : Nat) (ht : t < 16) (hin : prioQ q t ≠ 0) (w : World) (h : TT w x g Q q rob lf st)
theorem yield_cl (hst : 0 ≤ st ∧ st < 800000) (ht : t < 16) (hin : prioQ q t ≠ 0) (h : TT w x g Q q rob lf st) (b1 : w.cell? ⟨B1, 0, none⟩ = some (ptr x)) (b2 : w.cell? ⟨B2, 0, none⟩ = some (.int .i64 t)) :
    Calls Try.prog 54 #[.pointer (some ⟨x, 2 + t * 4, none⟩), .pointer (some ⟨B1, 0, none⟩), .pointer (some ⟨B2, 0, none⟩)] w (CL w x g Q st (moveQ q t (prioQ q t) false) rob lf) := by
  have hpp := h.2.mem_lt (prioQ_in hin)
  have GO := hide (fun n => goes_any x g Q q rob lf st (by omega) t (prioQ q t) false ht hpp.2.1 hpp.2.2 hin (w.drewN n) h)
  have k2 : w.cell? ⟨x, 2 + t * 4 + 2, none⟩ = some (.int .i64 (prioQ q t : Int)) := by
    obtain ⟨⟨cs, hb, hC⟩, _⟩ := h
    exact (hb.cell _).trans (hC.pr t ht)
  obtain ⟨p, hp⟩ : ∃ p, prioQ q t = p := ⟨_, rfl⟩
  rw [hp] at GO k2 ⊢
  clear hp hpp h hin
  unfold ptr at GO b1
  go_enter Try.func54, Try.ntmps54
  go_wp2_with fail
  go_region_with (first
    | (go_at_call 38; refine (GO.out 1).mono ?_; rintro e w2 ⟨rfl, ⟨st2, s1, s2, T2⟩, o2⟩))
  all_goals go_wp2_with fail
  all_goals go_end0
  all_goals exact ⟨rfl, ⟨st2, s1, s2, T2⟩, (wide_only ((Only.refl [] w).drewN 1)).trans' o2⟩
theorem lift_cl (p : Nat) (hst : 0 ≤ st ∧ st < 800000) (ht : t < 16) (h1 : 1 ≤ p) (h2 : p ≤ 31) (hin : prioQ q t ≠ 0) (h : TT w x g Q q rob lf st) (b1 : w.cell? ⟨B1, 0, none⟩ = some (.int .i64 p)) (b2 : w.cell? ⟨B2, 0, none⟩ = some (ptr x)) (b3 : w.cell? ⟨B3, 0, none⟩ = some (.int .i64 t)) :
    Calls Try.prog 57 #[.pointer (some ⟨x, 2 + t * 4, none⟩), .pointer (some ⟨B1, 0, none⟩), .pointer (some ⟨B2, 0, none⟩), .pointer (some ⟨B3, 0, none⟩)] w (CL w x g Q st (if p = prioQ q t then q else moveQ q t p true) rob lf) := by
  have GO := hide (fun n => goes_any x g Q q rob lf st (by omega) t p true ht h1 h2 hin (w.drewN n) h)
  have k2 : w.cell? ⟨x, 2 + t * 4 + 2, none⟩ = some (.int .i64 (prioQ q t : Int)) := by
    obtain ⟨⟨cs, hb, hC⟩, _⟩ := h
    exact (hb.cell _).trans (hC.pr t ht)
  have HT := hide h
  obtain ⟨o, ho⟩ : ∃ o, prioQ q t = o := ⟨_, rfl⟩
  rw [ho] at k2 ⊢
  clear ho h hin
  unfold ptr at GO b2
  by_cases hpo : p = o
  · have g1 : ((p : Int) == (o : Int)) = true := by simp [hpo]
    have g2 : ((p : Int) != (o : Int)) = false := by simp [hpo]
    rw [if_pos hpo]
    clear hpo GO
    go_enter Try.func57, Try.ntmps57
    go_wp2_with fail
    go_quiet (fail)
    go_wp2_with fail
    go_end0
    exact ⟨rfl, ⟨st, by omega, by omega, HT.out⟩, wide_only ((Only.refl [] w).drewN _)⟩
  · have g1 : ((p : Int) == (o : Int)) = false := by simp; omega
    have g2 : ((p : Int) != (o : Int)) = true := by simp; omega
    rw [if_neg hpo]
    clear hpo
    go_enter Try.func57, Try.ntmps57
    go_wp2_with fail
    go_quiet (fail)
    go_wp2_with (first
      | (go_at_call 38; refine (GO.out _).mono ?_; rintro e w2 ⟨rfl, ⟨st2, s1, s2, T2⟩, o2⟩))
    go_end0
    exact ⟨rfl, ⟨st2, s1, s2, T2⟩, (wide_only ((Only.refl [] w).drewN _)).trans' o2⟩
theorem put_cl (p : Nat) (rb : Bool) (hst : 0 ≤ st ∧ st < 800000) (ht : t < 16) (h1 : 1 ≤ p) (h2 : p ≤ 31) (hin : prioQ q t ≠ 0) (h : TT w x g Q q rob lf st) (b1 : w.cell? ⟨B1, 0, none⟩ = some (ptr x)) (b2 : w.cell? ⟨B2, 0, none⟩ = some (.int .i64 t)) (b3 : w.cell? ⟨B3, 0, none⟩ = some (.int .i64 p)) (b4 : w.cell? ⟨B4, 0, none⟩ = some (.bool rb))
    (n1 : B1 ∉ [x, g]) (n4 : B4 ∉ [x, g]) :
    Calls Try.prog 55 #[.pointer (some ⟨x, 2 + t * 4, none⟩), .pointer (some ⟨B1, 0, none⟩), .pointer (some ⟨B2, 0, none⟩), .pointer (some ⟨B3, 0, none⟩), .pointer (some ⟨B4, 0, none⟩)] w (CL w x g Q st (moveQ q t p false) (updb rob t rb) (upd lf t Q)) := by
  have hne := h.ne
  have GO := hide (goes_any x g Q q rob lf st (by omega) t p false ht h1 h2 hin w h)
  unfold ptr at GO b1
  have N1 := hide n1
  have N4 := hide n4
  have K1 := hide b1
  have K4 := hide b4
  clear h hin n1 n4
  go_enter Try.func55, Try.ntmps55
  go_wp2_with (first
    | (go_at_call 38; refine GO.out.mono ?_; rintro e w2 ⟨rfl, ⟨st2, s1, s2, T2⟩, o2⟩))
  obtain ⟨⟨cs2, hb2, hC2⟩, R2⟩ := T2
  have c1 := o2.keep (p := ⟨B1, 0, none⟩) K1.out N1.out
  have c4 := o2.keep (p := ⟨B4, 0, none⟩) K4.out N4.out
  have m1 := (hb2.cell 1).trans hC2.qu
  have m2 := (hb2.cell (2 + t * 4 + 1)).trans (hC2.rob t ht)
  have m4 := (hb2.cell (2 + t * 4 + 3)).trans (hC2.lf t ht)
  have f1 := hb2.frozen (2 + t * 4 + 1)
  have f3 := hb2.frozen (2 + t * 4 + 3)
  have HB := hide hb2
  have HC := hide hC2
  have HR := hide R2
  have HO := hide o2
  have HS1 := hide s1
  have HS2 := hide s2
  clear hb2 hC2 R2 o2 s1 s2
  have BB := hide ((HB.out.set_ (2 + t * 4 + 1) (.bool rb)).set_ (2 + t * 4 + 3) (.int .i64 Q))
  have OO := hide (((Only.refl [x] w2).setCell (p := ⟨x, 2 + t * 4 + 1, none⟩) (.inl (by simp)) (.bool rb)).setCell (p := ⟨x, 2 + t * 4 + 3, none⟩) (.inl (by simp)) (.int .i64 Q))
  go_region
  all_goals go_wp2_with fail
  go_end0
  have R4 := HR.out.only OO.out.drew (by simp; exact Ne.symm hne)
  exact ⟨rfl, ⟨st2, HS1.out, HS2.out, ⟨_, BB.out.drew, HC.out.two rb Q ht⟩, R4⟩, HO.out.trans OO.out.drew (fun k hk => .inl (by simp at hk; simp [hk]))⟩
theorem leave_cl (hst : 0 ≤ st ∧ st < 800000) (ht : t < 16) (hin : prioQ q t ≠ 0) (h : TT w x g Q q rob lf st) (b1 : w.cell? ⟨B1, 0, none⟩ = some (ptr x)) (b2 : w.cell? ⟨B2, 0, none⟩ = some (.int .i64 t)) :
    Calls Try.prog 52 #[.pointer (some ⟨x, 2 + t * 4, none⟩), .pointer (some ⟨B1, 0, none⟩), .pointer (some ⟨B2, 0, none⟩)] w (CL w x g Q st (remQ q t) (updb rob t false) (upd lf t 0)) := by
  have hne := h.ne
  obtain ⟨⟨cs, hb, hC⟩, hR⟩ := h
  have k0 := (hb.cell 0).trans hC.r
  have GO := hide (fun n => remove_spec g q st (by omega) t (w.drewN n) hR)
  have HB := hide hb
  have HC := hide hC
  have HR := hide hR
  have HIN := hide hin
  clear hb hC hR hin
  unfold ptr at GO b1
  go_enter Try.func52, Try.ntmps52
  go_wp2_with fail
  go_region_with (first
    | (go_at_call 53; refine (GO.out 1).mono ?_; rintro e w2 ⟨rfl, ⟨st2, s1, s2, R2⟩, o2⟩))
  all_goals (
    have B2 := HB.out.only ((wide_only (S := [g]) ((Only.refl [] w).drewN 1)).trans' o2) (by simp; exact hne)
    have m0 := (B2.cell (2 + t * 4)).trans (HC.out.inn t ht)
    have m2 := (B2.cell (2 + t * 4 + 1)).trans (HC.out.rob t ht)
    have m3 := (B2.cell (2 + t * 4 + 2)).trans (HC.out.pr t ht)
    have m4 := (B2.cell (2 + t * 4 + 3)).trans (HC.out.lf t ht)
    have f0 := B2.frozen (2 + t * 4)
    have f1 := B2.frozen (2 + t * 4 + 1)
    have f2 := B2.frozen (2 + t * 4 + 2)
    have f3 := B2.frozen (2 + t * 4 + 3)
    have OO := hide (only_four x t (.bool false) (.bool false) (.int .i64 0) (.int .i64 0) w2)
    have BB := hide (blk_four B2 t (.bool false) (.bool false) (.int .i64 0) (.int .i64 0))
    have HR2 := hide R2
    have HO2 := hide o2
    have HS1 := hide s1
    have HS2 := hide s2
    clear B2 R2 o2 s1 s2
    go_wp2_with fail
    go_end0
    have R4 := HR2.out.only OO.out (by simp; exact Ne.symm hne)
    have hT := HC.out.four false 0 ht (p := 0) (remQ_prio HR.out ht HIN.out R4)
    exact ⟨rfl, ⟨st2, HS1.out, by have := HS2.out; omega, ⟨_, BB.out, hT⟩, R4⟩, ((wide_only (S := [x, g]) ((Only.refl [] w).drewN 1)).trans HO2.out (fun k hk => .inl (by simp at hk; simp [hk]))).trans OO.out (fun k hk => .inl (by simp at hk; simp [hk]))⟩)
end
end Go.Proofs.Ytnndengdlokmbaa
