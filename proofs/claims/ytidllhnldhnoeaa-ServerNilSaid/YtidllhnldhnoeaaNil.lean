/- ServerNil: the closed sentence returns true. No condition. -/
import Derived.Test.YtidllhnldhnoeaaSv6
import Derived.Test.YtidllhnldhnoeaaRows
import Derived.ProofKit
import Derived.OpenShut
import Derived.ChangeOld
namespace Go.Proofs.Ytidllhnldhnoeaa.serverNil
open Go.ChangeShapes Go.WideShapes Go.ChangeAt Go.RowKit
set_option linter.unusedVariables false
set_option linter.all false

theorem same_gone (p q : Option Addr) (w : World) (h : Gone w p) (h' : Gone w q) : Calls Try.prog 17 #[.pointer p, .pointer q] w fun e w' => e = .returned (.bool true) ∧ w = w' := by
  have H := hide h
  have H' := hide h'
  clear h h'
  go_enter Try.func17, Try.ntmps17
  go_wp2_with fail
  refine (is_no _ _ H.out).mono ?_
  rintro e w' ⟨rfl, rfl⟩
  go_wp2_with fail
  refine (is_no _ _ H.out).mono ?_
  rintro e w' ⟨rfl, rfl⟩
  go_wp2_with fail
  refine (is_no _ _ H'.out).mono ?_
  rintro e w' ⟨rfl, rfl⟩
  go_wp2_with fail
  go_ret
  exact ⟨rfl, rfl⟩
theorem same_left (p : Option Addr) (g : Nat) (b : Int) (w : World) (h : Gone w p) (hc : w.cell? ⟨g, 0, none⟩ = some (.int .i64 b)) (hb : 0 < b) :
    Calls Try.prog 17 #[.pointer p, .pointer (some ⟨g, 0, none⟩)] w fun e w' => e = .returned (.bool false) ∧ w = w' := by
  have H := hide h
  clear h
  go_enter Try.func17, Try.ntmps17
  go_wp2_with fail
  refine (is_no _ _ H.out).mono ?_
  rintro e w' ⟨rfl, rfl⟩
  go_wp2_with fail
  refine (is_no _ _ H.out).mono ?_
  rintro e w' ⟨rfl, rfl⟩
  go_wp2_with fail
  refine (is_yes _ _ _ hc hb).mono ?_
  rintro e w' ⟨rfl, rfl⟩
  go_wp2_with fail
  go_ret
  exact ⟨rfl, rfl⟩
set_option maxRecDepth 100000 in
set_option maxHeartbeats 1000000 in
theorem same_differ (g g' : Nat) (b p p' : Int) (w : World) (hc : w.cell? ⟨g, 0, none⟩ = some (.int .i64 b)) (hc' : w.cell? ⟨g', 0, none⟩ = some (.int .i64 b)) (hp : w.cell? ⟨g, 1, none⟩ = some (.int .i64 p)) (hp' : w.cell? ⟨g', 1, none⟩ = some (.int .i64 p')) (hb : 0 < b) (hne : (p == p') = false) :
    Calls Try.prog 17 #[.pointer (some ⟨g, 0, none⟩), .pointer (some ⟨g', 0, none⟩)] w fun e w' => e = .returned (.bool false) ∧ ∃ k, w.drewN k = w' := by
  go_enter Try.func17, Try.ntmps17
  go_wp2_with fail
  refine (is_yes _ _ _ hc hb).mono ?_
  rintro e w' ⟨rfl, rfl⟩
  go_wp2_with fail
  refine (is_yes _ _ _ hc' hb).mono ?_
  rintro e w' ⟨rfl, rfl⟩
  go_wp2_with fail
  simp only [List.append_eq, List.cons_append, List.nil_append]
  go_big_quiet (fail)
  go_wp2
  go_ret
  exact ⟨rfl, _, rfl⟩

set_option maxRecDepth 100000 in
set_option maxHeartbeats 4000000 in
theorem walk (w : World) : Calls Try.prog 5 #[] w fun e w' => e = .returned (.bool true) ∧ Only [] w w' := by
  obtain ⟨W0, hW0⟩ : ∃ W0, Hid (W0 = (w.alloc (.cells #[.int .i64 0, .int .i64 0, .int .i64 0, .int .i64 0, .bool false, .int .i64 0, .int .i64 0, .slice none 0 0] 46)).alloc (.cells #[.pointer none, .pointer (some ⟨w.heap.size, 0, none⟩)] 23)) := ⟨_, hide rfl⟩
  have z0 : W0.cell? ⟨w.heap.size, 0, none⟩ = some (.int .i64 0) := by rw [hW0.out]; simpa using ((Blk.new w 46 _).alloc _).cell 0
  have c0 : W0.cell? ⟨w.heap.size + 1, 0, none⟩ = some (.pointer none) := by rw [hW0.out]; simpa using (Blk.new (w.alloc (.cells #[.int .i64 0, .int .i64 0, .int .i64 0, .int .i64 0, .bool false, .int .i64 0, .int .i64 0, .slice none 0 0] 46)) 23 #[.pointer none, .pointer (some ⟨w.heap.size, 0, none⟩)]).cell 0
  have c1 : W0.cell? ⟨w.heap.size + 1, 1, none⟩ = some (.pointer (some ⟨w.heap.size, 0, none⟩)) := by rw [hW0.out]; simpa using (Blk.new (w.alloc (.cells #[.int .i64 0, .int .i64 0, .int .i64 0, .int .i64 0, .bool false, .int .i64 0, .int .i64 0, .slice none 0 0] 46)) 23 #[.pointer none, .pointer (some ⟨w.heap.size, 0, none⟩)]).cell 1
  have hO0 : Only [] w W0 := by rw [hW0.out]; exact ((Only.refl _ w).alloc _).alloc _
  go_enter Try.func5, Try.ntmps5
  go_wp2_with fail
  rw [← hW0.out]
  go_loopw [2] (fun i wr => ∃ k : Nat, k ≤ 2 ∧ i = .int .i64 k ∧ Only [] W0 wr) (fun i _ => 2 - (intOf i).toNat)
  case atStart => exact ⟨0, Nat.zero_le _, rfl, Only.refl _ _⟩
  case round =>
    obtain ⟨k, hk, rfl, hO⟩ := hrel
    by_cases hlt : k < 2
    · obtain ⟨p, hcell, hgone⟩ : ∃ p, wr.cell? ⟨w.heap.size + 1, k, none⟩ = some (.pointer p) ∧ Gone wr p := by
        match k, hlt with
        | 0, _ => exact ⟨none, hO.keep0 c0, .inl rfl⟩
        | 1, _ => exact ⟨some ⟨w.heap.size, 0, none⟩, hO.keep0 c1, .inr ⟨_, rfl, hO.keep0 z0⟩⟩
      have i1 : (k : Int) < 2 := by omega
      have HG := hide hgone
      clear hgone
      go_wp2_with (first
        | (go_at_call 9; refine (use_gone p _ HG.out).mono ?_; rintro e w' ⟨rfl, rfl⟩)
        | (go_at_call 12; refine (active_gone p _ HG.out).mono ?_; rintro e w' ⟨rfl, rfl⟩)
        | (go_at_call 8; refine (start_gone p _ _ HG.out).mono ?_; rintro e w' ⟨rfl, rfl⟩)
        | (go_at_call 10; refine (stopAt_gone p _ _ HG.out).mono ?_; rintro e w' ⟨rfl, rfl⟩)
        | (go_at_call 11; refine (due_gone p _ _ HG.out).mono ?_; rintro e w1 ⟨rfl, o1⟩; have HG1 := hide (HG.out.only0 o1))
        | (go_at_call 15; refine (high_gone p _ HG1.out).mono ?_; rintro e w' ⟨rfl, kk, rfl⟩; have HG2 := hide (HG1.out.only0 ((Only.refl _ _).drewN kk)))
        | (go_at_call 13; refine (left_gone p _ HG2.out).mono ?_; rintro e w' ⟨rfl, rfl⟩)
        | (go_at_call 14; refine (pieces_gone p _ HG2.out).mono ?_; rintro e w' ⟨rfl, rfl⟩)
        | (go_at_call 16; refine (copy_gone p _ HG2.out).mono ?_; rintro e w' ⟨rfl, rfl⟩))
      go_roundw
      case rel => exact ⟨k + 1, by omega, by go_num, (hO.trans0 o1).drewN kk⟩
      case measure => simp [intOf]; omega
    · have hz := hO.keep0 z0
      have hc1 := hO.keep0 c1
      have hO1 := hO0.trans0 hO
      go_wp2_with fail
      refine (new_good 1 1 1 _ (by omega) (by omega) (by omega) (by omega) (by omega)).mono ?_
      rintro e wa ⟨rfl, oa, ha⟩
      go_wp2_with fail
      refine (new_good 1 2 1 _ (by omega) (by omega) (by omega) (by omega) (by omega)).mono ?_
      rintro e wb ⟨rfl, ob, hb⟩
      have ha2 := ha.only0 ob
      have hz2 := ob.keep0 (oa.keep0 hz)
      have hc2 := ob.keep0 (oa.keep0 hc1)
      obtain ⟨a0, a1, _⟩ := ha2.cells
      obtain ⟨b0, b1, _⟩ := hb.cells
      go_wp2_with fail
      refine (same_gone none _ _ (.inl rfl) (.inr ⟨_, rfl, hz2⟩)).mono ?_
      rintro e w' ⟨rfl, rfl⟩
      go_wp2_with fail
      refine (same_left none _ _ _ (.inl rfl) a0 (by decide)).mono ?_
      rintro e w' ⟨rfl, rfl⟩
      go_wp2_with fail
      refine (same_differ _ _ _ _ _ _ a0 b0 a1 b1 (by decide) (by decide)).mono ?_
      rintro e w' ⟨rfl, kk, rfl⟩
      go_wp2_with fail
      refine (known_any _).mono ?_
      rintro e wc ⟨rfl, oc⟩
      go_wp2_with fail
      go_ret
      exact ⟨rfl, (((hO1.trans0 oa).trans0 ob).drewN kk).trans0 oc⟩

theorem own : ownKnob Try.prog.godebug = none := by kernel_rfl
theorem laidOut : laidOutB Try.prog = true := by kernel_rfl

set_option maxRecDepth 100000 in
theorem lifted (os : Os) (started : os.Started) (H : Type) (enc : TypeId × Value → H) :
    ReturnsInHanded {} Try.checked os 5 .any (Rows.serverNilSpec.pre6 enc Try.prog Try.f5 Rows.serverNilRow.domain false) (Rows.serverNilSpec.post enc Try.prog Try.f5 false true false false) := by
  refine returnsInHanded_of_change (C := Try.checked) own started (by kernel_rfl) Try.func5
    (ChangeSpec.witness6 (enc := enc) (C := Try.checked) false ⟨#[], #[], []⟩ 8 (by kernel_rfl) (by kernel_rfl) (by kernel_rfl) (by kernel_rfl)) ?_
  intro W base args ds gs before hval0 hW hcnd _
  have hval : ∀ (j : Nat) t v, Try.f5.params[j]? = some t → args[j]? = some v → Value.okWide Try.prog W .any base t v := hval0
  have hW' := hW
  obtain ⟨p, q, hA0, hV, rfl, hfz, hnd⟩ := hW
  have hA : DataW.TrodAll enc Try.prog W 0 (fun _ => true) true Try.f5.params.toList args.toList ds p := hA0
  rw [Try.params5] at hA hval
  obtain ⟨hargs, rfl, rfl⟩ := trodAll_nil hA
  obtain rfl : args = #[] := by cases args; simp_all
  obtain ⟨rfl, rfl⟩ := trodVars_none hV
  clear hA0 hval0
  simp only [List.append_nil] at hW'
  refine (walk W).mono fun e W' ⟨he, hg⟩ => ?_
  subst he
  exact ⟨_, rfl, _, _, _, [], _, [], hW', trodAll_mk1 (shut_bool Try.underlying4 _), trodAll_mk0, rfl, hg.below.frame _, fun h => by cases h⟩

theorem over : Rows.serverNilRow.holds Try.pinned (OpenSpec.ofChange Rows.serverNilSpec) :=
  OpenClaim.holds_of_wide 5 Try.f5 rfl rfl rfl rfl rfl rfl rfl ⟨rfl, rfl, rfl, rfl, rfl⟩ rfl rfl rfl rfl rfl (by kernel_rfl) Try.func5 (by kernel_rfl)
    (of_decide_eq_true (by kernel_rfl)) (by unfold Func.isWrapper; first | (rw [if_pos (by decide +kernel)]; kernel_rfl) | (rw [if_neg (by decide +kernel)]; exact ⟨rfl, rfl⟩))
    (fun os started H enc _ => lifted os started H enc)

theorem proved : Rows.ServerNilSaid := over
#print axioms proved
end Go.Proofs.Ytidllhnldhnoeaa.serverNil
