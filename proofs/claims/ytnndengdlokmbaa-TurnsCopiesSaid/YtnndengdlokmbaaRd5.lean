/- Ready lists: the walks of the two closures, and of put. Condition: the list lies. -/
import Derived.Test.YtnndengdlokmbaaRd4
import Derived.BigRegion
import Derived.Laws.BitsAllLaws
namespace Go.Proofs.Ytnndengdlokmbaa
open Go.RowKit
set_option linter.unusedVariables false
set_option linter.all false
set_option maxRecDepth 20000

theorem shl_or (bits p : Nat) (hb : bits < 4294967296) (hp : p ≤ 31) : Go.bits .or .u32 (bits : Int) ((2 : Int) ^ p % 4294967296) = ((bits ||| 1 <<< p : Nat) : Int) := by
  have h2 : (2 : Nat) ^ p < 4294967296 := Nat.lt_of_le_of_lt (Nat.pow_le_pow_right (by omega) hp) (by decide)
  have h3 : (2 : Int) ^ p % 4294967296 = ((2 ^ p : Nat) : Int) := by
    rw [show (2 : Int) ^ p = ((2 ^ p : Nat) : Int) from (Int.natCast_pow 2 p).symm]
    exact Int.emod_eq_of_lt (Int.natCast_nonneg _) (by omega)
  rw [h3, u32_or_nat bits (2 ^ p) hb h2, Nat.one_shiftLeft]
theorem or_lt (bits p : Nat) (hb : bits < 4294967296) (hp : p ≤ 31) : bits ||| 1 <<< p < 4294967296 := by
  have h2 : (2 : Nat) ^ p < 2 ^ 32 := Nat.pow_lt_pow_right (by omega) (by omega)
  rw [Nat.one_shiftLeft]
  exact Nat.or_lt_two_pow (n := 32) hb h2
theorem wide_only {S : List Nat} {w w' : World} (o : Only [] w w') : Only S w w' := ⟨o.os, o.tape, o.output, o.size, fun k hk hn => o.block k hk (by simp)⟩
theorem tail_cl (B1 B2 g p : Nat) (v : Int) (hp : p < 32) (w : World) (h1 : w.cell? ⟨B1, 0, none⟩ = some (ptr g)) (h2 : w.cell? ⟨B2, 0, none⟩ = some (.int .i64 p)) (h3 : w.cell? ⟨g, 34 + p, none⟩ = some (.int .i64 v)) :
    Calls Try.prog 60 #[.pointer (some ⟨B1, 0, none⟩), .pointer (some ⟨B2, 0, none⟩)] w fun e w' => e = .returned (.tuple #[.int .i64 v, .int .i64 (-1)]) ∧ Only [] w w' := by
  have q1 : (0 : Int) ≤ (p : Int) := by omega
  have q2 : (p : Int) < 32 := by omega
  unfold ptr at h1
  go_enter Try.func60, Try.ntmps60
  go_wp2_with fail
  go_quiet (fail)
  go_wp2_with fail
  exact bodyPost_ret (v := .tuple #[.int .i64 v, .int .i64 (-1)]) (by simp [results, Try.results60, go_sem]) rfl ⟨rfl, (Only.refl [] w).drewN _⟩
theorem head_cl (B1 B2 g p : Nat) (v : Int) (hp : p < 32) (w : World) (h1 : w.cell? ⟨B1, 0, none⟩ = some (ptr g)) (h2 : w.cell? ⟨B2, 0, none⟩ = some (.int .i64 p)) (h3 : w.cell? ⟨g, 2 + p, none⟩ = some (.int .i64 v)) :
    Calls Try.prog 70 #[.pointer (some ⟨B1, 0, none⟩), .pointer (some ⟨B2, 0, none⟩)] w fun e w' => e = .returned (.tuple #[.int .i64 (-1), .int .i64 v]) ∧ Only [] w w' := by
  have q1 : (0 : Int) ≤ (p : Int) := by omega
  have q2 : (p : Int) < 32 := by omega
  unfold ptr at h1
  go_enter Try.func70, Try.ntmps70
  go_wp2_with fail
  go_quiet (fail)
  go_wp2_with fail
  exact bodyPost_ret (v := .tuple #[.int .i64 (-1), .int .i64 v]) (by simp [results, Try.results70, go_sem]) rfl ⟨rfl, (Only.refl [] w).drewN _⟩
theorem RB.only {w w' : World} {g : Nat} {s : RS} {prio : Nat → Int} {bits : Nat} {st : Int} {S : List Nat} (h : RB w g s prio bits st) (o : Only S w w') (hg : g ∉ S) : RB w' g s prio bits st := by
  obtain ⟨cs, hB, hC⟩ := h
  exact ⟨cs, hB.only o hg, hC⟩

/-- put with this closure, where nothing is wrong. -/
theorem putT_any (B1 B2 g p t : Nat) (h1 : 1 ≤ p) (h2 : p ≤ 31) (ht : t < 16) (s : RS) (prio : Nat → Int) (bits : Nat) (hbits : bits < 4294967296) (st : Int) (hst : 0 ≤ st ∧ st < 1000000) (w : World) (h : RB w g s prio bits st) (h0 : prio t = 0)
    (hx : link? (s.tail p)) (b1 : w.cell? ⟨B1, 0, none⟩ = some (ptr g)) (b2 : w.cell? ⟨B2, 0, none⟩ = some (.int .i64 p)) :
    Calls Try.prog 59 #[ptr g, .int .i64 p, .int .i64 t, .func (.func 60) #[] #[.pointer (some ⟨B1, 0, none⟩), .pointer (some ⟨B2, 0, none⟩)]] w fun e w' => e = .returned (.int .i64 0) ∧ RB w' g (s.putT p t) (upd prio t p) (bits ||| 1 <<< p) (st + 4) ∧ Only [g] w w' := by
  obtain ⟨cs, hB, hC⟩ := h
  have q1 : (0 : Int) ≤ (t : Int) := by omega
  have q2 : (t : Int) < 16 := by omega
  have q3 : decide ((p : Int) < 1) = false := by simp; omega
  have q4 : decide ((31 : Int) < (p : Int)) = false := by simp; omega
  have q5 : (p : Int) < 32 := by omega
  have k0 : w.cell? ⟨g, 0, none⟩ = some (.bool true) := (hB.cell 0).trans hC.made
  have kp : w.cell? ⟨g, 98 + t, none⟩ = some (.int .i64 0) := by rw [hB.cell, hC.pr t ht, h0]
  have TH := hide (there_any g true w k0)
  have TT := hide (thread_any t w)
  have d1 : (decide ((0 : Int) ≤ (t : Int)) && decide ((t : Int) < 16)) = true := by simp; omega
  have hcl := hide (tail_cl B1 B2 g p (s.tail p) (by omega) w b1 b2 (by rw [hB.cell, hC.tail p (by omega)]))
  have mk1 : True := trivial
  unfold ptr at TH hcl ⊢
  go_enter Try.func59, Try.ntmps59
  go_wp2_with (first
    | (go_at_call 62; refine TH.out.mono ?_; rintro e w' ⟨rfl, hw⟩; obtain rfl := hw.symm; clear hw)
    | (go_at_call 68; refine TT.out.mono ?_; rw [d1]; rintro e w' ⟨rfl, hw⟩; obtain rfl := hw.symm; clear hw)
    | (go_at_call 60; refine hcl.out.mono ?_; rintro e w1 ⟨rfl, o1⟩; have hB1 := hB.only o1 (by simp); have f1 := hB1.frozen (98 + t); have c1 : w1.cell? ⟨g, 98 + t, none⟩ = some (.int .i64 0) := (by rw [hB1.cell, hC.pr t ht, h0])))
  have hC2 := hC.setPrio t ht p
  have hB2 := hB1.set_ (98 + t) (.int .i64 p)
  have e1 := (hB2.cell 1).trans hC2.some_
  have e2 := hB2.frozen 1
  go_region
  have hbit := shl_or bits p hbits h2
  have hB3 := (hB2.set_ 1 (.int .u32 (Go.bits .or .u32 (bits : Int) ((2 : Int) ^ p % 4294967296)))).drew
  have hC3 : Cs ((cs.setIfInBounds (98 + t) (.int .i64 p)).setIfInBounds 1 (.int .u32 (Go.bits .or .u32 (bits : Int) ((2 : Int) ^ p % 4294967296)))) s (upd prio t p) (bits ||| 1 <<< p) st := by rw [hbit]; exact hC2.setBits _
  have J1 := hide (join_any g p (s.tail p) t (by omega) hx (.inr ⟨t, ht, rfl⟩) s (upd prio t p) (bits ||| 1 <<< p) st (by omega) _ ⟨_, hB3, hC3⟩)
  have J2 := hide (fun W => join_any g p t (-1) (by omega) (.inr ⟨t, ht, rfl⟩) (.inl rfl) (s.join p (s.tail p) t) (upd prio t p) (bits ||| 1 <<< p) (st + 2) (by omega) W)
  have O1 := hide ((((wide_only (S := [g]) o1).setCell (p := ⟨g, 98 + t, none⟩) (.inl (by simp)) (.int .i64 p)).setCell (p := ⟨g, 1, none⟩) (.inl (by simp)) (.int .u32 (Go.bits .or .u32 (bits : Int) ((2 : Int) ^ p % 4294967296)))).drew)
  clear hB3 hC3 hbit
  unfold ptr at J1 J2
  go_wp2_with (first
    | (go_at_call 69; first
      | (clear mk1; refine (J1.out).mono ?_; rintro e w2 ⟨rfl, R2, o2⟩)
      | (refine (J2.out _ R2).mono ?_; rintro e w3 ⟨rfl, R3, o3⟩)))
  go_ret
  refine ⟨rfl, ?_, (O1.out.trans o2 (fun x hx => .inl hx)).trans o3 (fun x hx => .inl hx)⟩
  rw [show st + 4 = st + 2 + 2 by omega]
  exact R3
/-- put with this closure, where nothing is wrong. -/
theorem putH_any (B1 B2 g p t : Nat) (h1 : 1 ≤ p) (h2 : p ≤ 31) (ht : t < 16) (s : RS) (prio : Nat → Int) (bits : Nat) (hbits : bits < 4294967296) (st : Int) (hst : 0 ≤ st ∧ st < 1000000) (w : World) (h : RB w g s prio bits st) (h0 : prio t = 0)
    (hx : link? (s.head p)) (b1 : w.cell? ⟨B1, 0, none⟩ = some (ptr g)) (b2 : w.cell? ⟨B2, 0, none⟩ = some (.int .i64 p)) :
    Calls Try.prog 59 #[ptr g, .int .i64 p, .int .i64 t, .func (.func 70) #[] #[.pointer (some ⟨B1, 0, none⟩), .pointer (some ⟨B2, 0, none⟩)]] w fun e w' => e = .returned (.int .i64 0) ∧ RB w' g (s.putH p t) (upd prio t p) (bits ||| 1 <<< p) (st + 4) ∧ Only [g] w w' := by
  obtain ⟨cs, hB, hC⟩ := h
  have q1 : (0 : Int) ≤ (t : Int) := by omega
  have q2 : (t : Int) < 16 := by omega
  have q3 : decide ((p : Int) < 1) = false := by simp; omega
  have q4 : decide ((31 : Int) < (p : Int)) = false := by simp; omega
  have q5 : (p : Int) < 32 := by omega
  have k0 : w.cell? ⟨g, 0, none⟩ = some (.bool true) := (hB.cell 0).trans hC.made
  have kp : w.cell? ⟨g, 98 + t, none⟩ = some (.int .i64 0) := by rw [hB.cell, hC.pr t ht, h0]
  have TH := hide (there_any g true w k0)
  have TT := hide (thread_any t w)
  have d1 : (decide ((0 : Int) ≤ (t : Int)) && decide ((t : Int) < 16)) = true := by simp; omega
  have hcl := hide (head_cl B1 B2 g p (s.head p) (by omega) w b1 b2 (by rw [hB.cell, hC.head p (by omega)]))
  have mk1 : True := trivial
  unfold ptr at TH hcl ⊢
  go_enter Try.func59, Try.ntmps59
  go_wp2_with (first
    | (go_at_call 62; refine TH.out.mono ?_; rintro e w' ⟨rfl, hw⟩; obtain rfl := hw.symm; clear hw)
    | (go_at_call 68; refine TT.out.mono ?_; rw [d1]; rintro e w' ⟨rfl, hw⟩; obtain rfl := hw.symm; clear hw)
    | (go_at_call 70; refine hcl.out.mono ?_; rintro e w1 ⟨rfl, o1⟩; have hB1 := hB.only o1 (by simp); have f1 := hB1.frozen (98 + t); have c1 : w1.cell? ⟨g, 98 + t, none⟩ = some (.int .i64 0) := (by rw [hB1.cell, hC.pr t ht, h0])))
  have hC2 := hC.setPrio t ht p
  have hB2 := hB1.set_ (98 + t) (.int .i64 p)
  have e1 := (hB2.cell 1).trans hC2.some_
  have e2 := hB2.frozen 1
  go_region
  have hbit := shl_or bits p hbits h2
  have hB3 := (hB2.set_ 1 (.int .u32 (Go.bits .or .u32 (bits : Int) ((2 : Int) ^ p % 4294967296)))).drew
  have hC3 : Cs ((cs.setIfInBounds (98 + t) (.int .i64 p)).setIfInBounds 1 (.int .u32 (Go.bits .or .u32 (bits : Int) ((2 : Int) ^ p % 4294967296)))) s (upd prio t p) (bits ||| 1 <<< p) st := by rw [hbit]; exact hC2.setBits _
  have J1 := hide (join_any g p (-1) t (by omega) (.inl rfl) (.inr ⟨t, ht, rfl⟩) s (upd prio t p) (bits ||| 1 <<< p) st (by omega) _ ⟨_, hB3, hC3⟩)
  have J2 := hide (fun W => join_any g p t (s.head p) (by omega) (.inr ⟨t, ht, rfl⟩) hx (s.join p (-1) t) (upd prio t p) (bits ||| 1 <<< p) (st + 2) (by omega) W)
  have O1 := hide ((((wide_only (S := [g]) o1).setCell (p := ⟨g, 98 + t, none⟩) (.inl (by simp)) (.int .i64 p)).setCell (p := ⟨g, 1, none⟩) (.inl (by simp)) (.int .u32 (Go.bits .or .u32 (bits : Int) ((2 : Int) ^ p % 4294967296)))).drew)
  clear hB3 hC3 hbit
  unfold ptr at J1 J2
  go_wp2_with (first
    | (go_at_call 69; first
      | (clear mk1; refine (J1.out).mono ?_; rintro e w2 ⟨rfl, R2, o2⟩)
      | (refine (J2.out _ R2).mono ?_; rintro e w3 ⟨rfl, R3, o3⟩)))
  go_ret
  refine ⟨rfl, ?_, (O1.out.trans o2 (fun x hx => .inl hx)).trans o3 (fun x hx => .inl hx)⟩
  rw [show st + 4 = st + 2 + 2 by omega]
  exact R3
end Go.Proofs.Ytnndengdlokmbaa
