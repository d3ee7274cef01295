/- WireNil: the law returns true. No condition. -/
import Derived.Test.YtdaeaepfbnlaeaaWi7
import Derived.Test.YtdaeaepfbnlaeaaRows
import Derived.ChangeSame
import Derived.ProofKit
import Derived.OpenShut
import Derived.ChangeOld
namespace Go.Proofs.Ytdaeaepfbnlaeaa
open Go.RowKit
set_option linter.unusedVariables false
set_option linter.all false
set_option maxRecDepth 20000

set_option maxHeartbeats 2000000 in
theorem nil_any (w : World) : Calls Try.prog 7 #[] w fun e w' => e = .returned (.bool true) ∧ Only [] w w' := by
  go_enter Try.func7, Try.ntmps7
  go_wp2_with fail
  refine (put_nil _).mono ?_
  rintro e w' ⟨rfl, rfl⟩
  go_wp2_with fail
  refine (put_empty w).mono ?_
  rintro e w1 ⟨o1, g, c, rfl, hrow⟩
  have hs := Src.own hrow
  clear hrow
  go_wp2_with fail
  refine (open_any _ 1 1 [0] _ rfl (by omega) (src_lit w1 [0])).mono ?_
  rintro e w4 ⟨o4, g4, gb4, cap4, rfl, hR4, hg4, hgb4⟩
  have o14 : Only [] w1 w4 := ((Only.refl [] w1).alloc _).trans0 o4
  have o5 := o1.trans0 o14
  have hs4 := hs.only0 o14
  have e1 := fun (W : World) (ho : Only [] w4 W) => run_str_any (some ⟨g, 0, none⟩) 1 c [0] W rfl (hs4.only0 ho)
  have e0 := run_str_any (some ⟨g, 0, none⟩) 1 c [0] w4 rfl hs4
  clear hs hs4 o4 o14 o1 hg4 hgb4
  have mk1 : True := trivial
  go_wp2_with (first
    | (go_at_call 35; refine (take_nilfunc 5 hR4).mono ?_; rintro e w' ⟨rfl, rfl⟩)
    | (go_at_call 29; refine (take2_gone none _ _ _ (.inl rfl)).mono ?_; rintro e w' ⟨rfl, rfl⟩)
    | (go_at_call 24; refine (num_any _ _).mono ?_; rintro e w' ⟨rfl, rfl⟩)
    | (go_at_call 36; first
      | (clear mk1; refine (nothing_any none _ (.inl rfl)).mono ?_; rintro e w6 ⟨rfl, o6⟩)
      | (refine (nothing_any _ _ (.inr ⟨_, rfl, by simpa using (Blk.new w6 73 #[.slice none 0 0, .int .i64 0]).cell 0⟩)).mono ?_; rintro e w7 ⟨rfl, o7⟩))
    | (go_at_call 18; refine (known_any _).mono ?_; rintro e w8 ⟨rfl, o8⟩))
  go_ret
  exact ⟨rfl, ((((o5.trans0 o6).alloc _).trans0 o7)).trans0 o8⟩

end Go.Proofs.Ytdaeaepfbnlaeaa
namespace Go.Proofs.Ytdaeaepfbnlaeaa.wireNil
open Go.ChangeShapes Go.WideShapes Go.ChangeAt Go.RowKit

theorem own : ownKnob Try.prog.godebug = none := by kernel_rfl
theorem laidOut : laidOutB Try.prog = true := by kernel_rfl

set_option maxRecDepth 100000 in
theorem lifted (os : Os) (started : os.Started) (H : Type) (enc : TypeId × Value → H) :
    ReturnsInHanded {} Try.checked os 7 .any (Rows.wireNilSpec.pre6 enc Try.prog Try.f7 Rows.wireNilRow.domain false) (Rows.wireNilSpec.post enc Try.prog Try.f7 false true false false) := by
  refine returnsInHanded_of_change (C := Try.checked) own started (by kernel_rfl) Try.func7
    (ChangeSpec.witness6 (enc := enc) (C := Try.checked) false ⟨#[], #[], []⟩ 8 (by kernel_rfl) (by kernel_rfl) (by kernel_rfl) (by kernel_rfl)) ?_
  intro W base args ds gs before hval0 hW hcnd _
  have hval : ∀ (j : Nat) t v, Try.f7.params[j]? = some t → args[j]? = some v → Value.okWide Try.prog W .any base t v := hval0
  have hW' := hW
  obtain ⟨p, q, hA0, hV, rfl, hfz, hnd⟩ := hW
  have hA : DataW.TrodAll enc Try.prog W 0 (fun _ => true) true Try.f7.params.toList args.toList ds p := hA0
  rw [Try.params7] at hA hval
  obtain ⟨hargs, rfl, rfl⟩ := trodAll_nil hA
  obtain rfl : args = #[] := by cases args; simp_all
  obtain ⟨rfl, rfl⟩ := trodVars_none hV
  clear hA0 hval0
  simp only [List.append_nil] at hW'
  refine (nil_any W).mono fun e W' ⟨he, hg⟩ => ?_
  subst he
  exact ⟨_, rfl, _, _, _, [], _, [], hW', trodAll_mk1 (shut_bool Try.underlying4 _), trodAll_mk0, rfl, hg.below.frame _, fun h => by cases h⟩

theorem over : Rows.wireNilRow.holds Try.pinned (OpenSpec.ofChange Rows.wireNilSpec) :=
  OpenClaim.holds_of_wide 7 Try.f7 rfl rfl rfl rfl rfl rfl rfl ⟨rfl, rfl, rfl, rfl, rfl⟩ rfl rfl rfl rfl rfl (by kernel_rfl) Try.func7 (by kernel_rfl)
    (of_decide_eq_true (by kernel_rfl)) (by unfold Func.isWrapper; first | (rw [if_pos (by decide +kernel)]; kernel_rfl) | (rw [if_neg (by decide +kernel)]; exact ⟨rfl, rfl⟩))
    (fun os started H enc _ => lifted os started H enc)

theorem proved : Rows.WireNilSaid := over
#print axioms proved
end Go.Proofs.Ytdaeaepfbnlaeaa.wireNil
