/- Ready lists: the walks of First and Copy. Condition: the list lies. -/
import Derived.Test.YtnndengdlokmbaaRd11
import Derived.BigQuiet
import Derived.BigRegion
import Derived.Deep.RegionHeld3
import Derived.Deep.MidRow
import Derived.Deep.WholeRow
namespace Go.Proofs.Ytnndengdlokmbaa
open Go.RowKit
set_option linter.unusedVariables false
set_option linter.all false
set_option maxRecDepth 20000

theorem len_at (bits p : Nat) (hbits : bits < 4294967296) (hlen : Lib.bitLen bits = p + 1) (W : World) : Calls Try.prog 63 #[.int .u32 bits] W fun e w' => e = .returned (.int .i64 ((p : Int) + 1)) ∧ W = w' := by
  refine (Try.bits_Len32 (bits : Int) W (by omega) (by omega)).mono ?_
  rintro e w' ⟨rfl, rfl⟩
  refine ⟨?_, rfl⟩
  rw [Int.toNat_natCast, hlen]
  rfl
def firstE (v : Int) (b : Bool) (e : Ending) : Prop := e = .returned (.tuple #[.int .i64 v, .bool b])
theorem first_none (g : Nat) (w : World) (k0 : w.cell? ⟨g, 0, none⟩ = some (.bool true)) (k1 : w.cell? ⟨g, 1, none⟩ = some (.int .u32 0)) :
    Calls Try.prog 39 #[ptr g] w fun e w' => firstE 0 false e ∧ w' = w := by
  have TH := hide (there_any g true w k0)
  unfold ptr at TH ⊢
  go_enter Try.func39, Try.ntmps39
  go_wp2_with (first
    | (go_at_call 62; refine TH.out.mono ?_; rintro e w' ⟨rfl, hw⟩; obtain rfl := hw.symm; clear hw))
  exact bodyPost_ret (v := .tuple #[.int .i64 0, .bool false]) (by simp [results, Try.results39, go_sem]) rfl ⟨rfl, rfl⟩
set_option maxHeartbeats 1000000 in
theorem first_some (g p : Nat) (hp : p ≤ 31) (s : RS) (prio : Nat → Int) (bits : Nat) (hbits : bits < 4294967296) (hb0 : bits ≠ 0) (hlen : Lib.bitLen bits = p + 1) (st : Int) (hst : 0 ≤ st ∧ st < 1000000) (w : World) (h : RB w g s prio bits st) :
    Calls Try.prog 39 #[ptr g] w fun e w' => firstE (s.head p) true e ∧ RB w' g s prio bits (st + 1) ∧ Only [g] w w' := by
  obtain ⟨cs, hB, hC⟩ := h
  have k0 : w.cell? ⟨g, 0, none⟩ = some (.bool true) := (hB.cell 0).trans hC.made
  have k1 : w.cell? ⟨g, 1, none⟩ = some (.int .u32 bits) := (hB.cell 1).trans hC.some_
  have k114 : w.cell? ⟨g, 114, none⟩ = some (.int .i64 st) := (hB.cell 114).trans hC.steps
  have f114 := hB.frozen 114
  have g1 : ((bits : Int) == 0) = false := by simp; omega
  have TH := hide (there_any g true w k0)
  have HB2 := hide (hB.set_ 114 (.int .i64 (st + 1)))
  have HC2 := hide (hC.setSteps (st + 1))
  have j1 : (w.setCell ⟨g, 114, none⟩ (.int .i64 (st + 1))).cell? ⟨g, 1, none⟩ = some (.int .u32 bits) := (HB2.out.cell 1).trans HC2.out.some_
  have j2 : (w.setCell ⟨g, 114, none⟩ (.int .i64 (st + 1))).cell? ⟨g, 2 + p, none⟩ = some (.int .i64 (s.head p)) := (HB2.out.cell (2 + p)).trans (HC2.out.head p (by omega))
  have LN := hide (fun W => len_at bits p hbits hlen W)
  have q3 : (0 : Int) ≤ (p : Int) := by omega
  have q4 : (p : Int) < 32 := by omega
  clear hB hC
  unfold ptr at TH ⊢
  go_enter Try.func39, Try.ntmps39
  go_wp2_with (first
    | (go_at_call 62; refine TH.out.mono ?_; rintro e w' ⟨rfl, hw⟩; obtain rfl := hw.symm; clear hw))
  go_quiet (first
    | (go_at_call 63; exact quiet_left (LN.out _)))
  go_wp2_with fail
  exact bodyPost_ret (v := .tuple #[.int .i64 (s.head p), .bool true]) (by simp [results, Try.results39, go_sem]) rfl ⟨rfl, ⟨_, HB2.out.drewN _, HC2.out⟩, ((Only.refl [g] _).setCell (p := ⟨g, 114, none⟩) (.inl (by simp)) _).drewN _⟩
/-- The cells of a list that nobody made. -/
def Z53 : Array Value := #[.bool false, .int .u32 0] ++ Array.replicate 113 (.int .i64 0)
theorem Z53_size : Z53.size = 115 := by decide +kernel
theorem info53 : (Try.prog.info? 78).map (fun i => (i.zero, i.size)) = some (some (.agg Z53), 115) := by kernel_rfl
theorem zero53 (W : World) : (zeroValue 78).run Try.prog W = .ok (.agg Z53) W := (zero_of_info info53).1 W
theorem size53 : (Try.prog.info? 78).map (·.size) = some 115 := by kernel_rfl
theorem wpList_store_new {P : Program} {ops : Array Oper} {rest : List Oper} {op : Oper} {a : Act} {W w : World} {Q : Exit → Act → World → Prop} (hgd : op.guard = none) (ty : TypeId) (x y : Operand) (ho : op.op = .store ty x y)
    (c c' : Array Value) (hx : a.eval x = .pointer (some ⟨w.heap.size, 0, none⟩)) (hy : a.eval y = .agg c') (hW : W = w.alloc (.cells c ty))
    (hi : (P.info? ty).map (·.size) = some c'.size) (hs : c.size = c'.size) (h1 : c'.all (·.oneCell') = true)
    (h : wpList P ops Q rest (a.put op.dst undef) (w.alloc (.cells c' ty))) : wpList P ops Q (op :: rest) a W :=
  wpList_plain hgd fun _ hK => by
    subst hW
    unfold Oper.wp execOp
    simp only [ho, hx, hy, Sem.run_bind, run_storeAt_new w ty c c' hi hs h1, Sem.run_pure, Result.andThen_ok]
    exact hK _ _ h
theorem copy_any (g : Nat) (cs : Array Value) (hz : cs.size = 115) (h1 : cs.all (·.oneCell') = true) (w : World) (hB : Blk w g 78 cs) (k0 : cs[0]? = some (.bool true)) : Calls Try.prog 49 #[ptr g] w fun e w' => e = .returned (ptr w.heap.size) ∧ Blk w' w.heap.size 78 cs ∧ Only [] w w' := by
  have TH := hide (there_any g true w ((hB.cell 0).trans k0))
  have HR := hide (show w.rangeAt g 0 cs.toList from fun j v hv => by rw [Nat.zero_add, hB.cell]; simpa using hv)
  have HI := hide (show (Try.prog.info? 78).map (·.size) = some cs.toList.length by rw [Array.length_toList, hz]; exact size53)
  have HI' := hide (show (Try.prog.info? 78).map (·.size) = some cs.size by rw [hz]; exact size53)
  have HS := hide (Z53_size.trans hz.symm)
  have H1 := hide h1
  clear h1
  have hZ := zero53
  have HU := hide Try.underlying78
  unfold ptr at TH ⊢
  go_enter Try.func49, Try.ntmps49
  go_wp2_with (first
    | (go_at_call 62; refine TH.out.mono ?_; rintro e w' ⟨rfl, hw⟩; obtain rfl := hw.symm; clear hw)
    | (refine wpList_load_mid rfl 78 _ rfl g 0 rfl cs.toList _ HR.out HU.out rfl HI.out ?_)
    | (refine wpList_store_new rfl 78 _ _ rfl Z53 cs rfl rfl rfl HI'.out HS.out H1.out ?_))
  go_ret
  exact ⟨rfl, Blk.new w 78 cs, (Only.refl [] w).alloc _⟩
def firstT (q : Nat → List Nat) : Int := match allQ q with
  | [] => 0
  | x :: _ => (x.2 : Int)
theorem first_spec (g : Nat) (q : Nat → List Nat) (st : Int) (hst : 0 ≤ st ∧ st < 1000000) (w : World) (h : RL w g q st) :
    Calls Try.prog 39 #[ptr g] w fun e w' => firstE (firstT q) (decide (allQ q ≠ [])) e ∧ (∃ st', st ≤ st' ∧ st' ≤ st + 1 ∧ RL w' g q st') ∧ Only [g] w w' := by
  obtain ⟨s, prio, bits, hB, hR⟩ := h
  have hB' := hB
  obtain ⟨cs, hb, hC⟩ := hB'
  have k0 := (hb.cell 0).trans hC.made
  have hm := hR.bits_mod
  rcases hR.bits_top 32 (by omega) with ⟨h0, h1⟩ | ⟨p, h1, h2, h3, h4, h5, h6, h7, h8, -⟩
  · rw [hm] at h0
    refine (first_none g w k0 (by rw [hb.cell, hC.some_, h0]; rfl)).mono ?_
    rintro e w' ⟨he, hw⟩
    obtain rfl := hw.symm
    have hA : allQ q = [] := h1
    refine ⟨by unfold firstT; rw [hA]; simpa using he, ⟨st, by omega, by omega, s, prio, bits, hB, hR⟩, Only.refl _ _⟩
  · rw [hm] at h4 h8
    refine (first_some g p h3 s prio bits hR.bits_lt h8 h4 st hst w hB).mono ?_
    rintro e w' ⟨he, R, o⟩
    refine ⟨?_, ⟨st + 1, by omega, by omega, s, prio, bits, R, hR⟩, o⟩
    have hA : allQ q = _ := h6
    cases hq : q p with
    | nil => exact absurd hq h5
    | cons t r =>
      rw [hq, List.map_cons, List.cons_append] at hA
      unfold firstT
      rw [hA]
      have hh : s.head p = (t : Int) := by rw [(hR.dl p h2 h3).head, hq]; rfl
      rw [hh] at he
      simpa using he
theorem Cs.one {cs : Array Value} {s : RS} {prio : Nat → Int} {bits : Nat} {st : Int} (h : Cs cs s prio bits st) : cs.all (·.oneCell') = true := by
  refine Array.all_eq_true_iff_forall_mem.2 (fun v hv => ?_)
  obtain ⟨i, hi, rfl⟩ := Array.mem_iff_getElem.1 hv
  have hz := h.size
  have key : ∀ u : Value, cs[i]? = some u → u.oneCell' = true → (cs[i]).oneCell' = true := fun u hu h1 => by
    rw [Array.getElem?_eq_getElem hi] at hu
    obtain rfl := Option.some.inj hu
    exact h1
  rcases Nat.lt_or_ge i 2 with c | c
  · rcases Nat.lt_or_ge i 1 with d | d
    · obtain rfl : i = 0 := by omega
      exact key _ h.made rfl
    · obtain rfl : i = 1 := by omega
      exact key _ h.some_ rfl
  rcases Nat.lt_or_ge i 34 with d | d
  · exact key _ (by have := h.head (i - 2) (by omega); rwa [show 2 + (i - 2) = i by omega] at this) rfl
  rcases Nat.lt_or_ge i 66 with d' | d'
  · exact key _ (by have := h.tail (i - 34) (by omega); rwa [show 34 + (i - 34) = i by omega] at this) rfl
  rcases Nat.lt_or_ge i 82 with d1 | d1
  · exact key _ (by have := h.next (i - 66) (by omega); rwa [show 66 + (i - 66) = i by omega] at this) rfl
  rcases Nat.lt_or_ge i 98 with d2 | d2
  · exact key _ (by have := h.prev (i - 82) (by omega); rwa [show 82 + (i - 82) = i by omega] at this) rfl
  rcases Nat.lt_or_ge i 114 with d3 | d3
  · exact key _ (by have := h.pr (i - 98) (by omega); rwa [show 98 + (i - 98) = i by omega] at this) rfl
  obtain rfl : i = 114 := by omega
  exact key _ h.steps rfl
theorem copy_spec (g : Nat) (q : Nat → List Nat) (st : Int) (w : World) (h : RL w g q st) :
    Calls Try.prog 49 #[ptr g] w fun e w' => e = .returned (ptr w.heap.size) ∧ RL w' w.heap.size q st ∧ Only [] w w' := by
  obtain ⟨s, prio, bits, ⟨cs, hb, hC⟩, hR⟩ := h
  refine (copy_any g cs hC.size hC.one w hb hC.made).mono ?_
  rintro e w' ⟨rfl, hB, o⟩
  exact ⟨rfl, ⟨s, prio, bits, ⟨cs, hB, hC⟩, hR⟩, o⟩
end Go.Proofs.Ytnndengdlokmbaa
