/- ArenaNil: the closed sentence returns true. No condition. -/
import Derived.Test.YtdlmgijbejkgaaaAr8
import Derived.Test.YtdlmgijbejkgaaaRows
import Derived.ProofKit
import Derived.OpenShut
import Derived.ChangeOld
namespace Go.Proofs.Ytdlmgijbejkgaaa.arenaNil
open Go.ChangeShapes Go.WideShapes Go.ChangeAt Go.RowKit

def bA : List UInt8 := List.replicate 65536 0
theorem bA_len : bA.length = 65536 := List.length_replicate
theorem bB_len : (splice bA 65532 (four 7)).length = 65536 := by rw [length_splice _ _ _ (by rw [bA_len]; simp [four]), bA_len]

set_option maxRecDepth 100000 in
set_option maxHeartbeats 4000000 in
theorem walk (w : World) : Calls Try.prog 6 #[] w fun e w' => e = .returned (.bool true) ∧ Only [] w w' := by
  go_enter Try.func6, Try.ntmps6
  go_wp2_with fail
  refine (new_good 65536 w (by omega) (by omega) (by omega)).mono ?_
  rintro e wa ⟨rfl, oa, ha⟩
  have hA : Ar wa (w.heap.size + 1) w.heap.size 65536 bA 0 := ha
  clear ha
  go_wp2_with fail
  refine (new_good 256 wa (by omega) (by omega) (by omega)).mono ?_
  rintro e wb ⟨rfl, ob, hb⟩
  have hB : Ar wb (wa.heap.size + 1) wa.heap.size 256 bs0 0 := hb
  have hA1 := hA.only ob (by simp) (by simp)
  have hlt := hA.hdr.lt
  clear hb hA
  go_wp2_with fail
  refine (new_bad 248 wb (by omega) (by omega) (by omega)).mono ?_
  rintro e w' ⟨rfl, rfl⟩
  go_wp2_with fail
  refine (new_bad (-8) wb (by omega) (by omega) (by omega)).mono ?_
  rintro e w' ⟨rfl, rfl⟩
  go_wp2_with fail
  refine (set_good _ _ _ bA _ 65532 7 _ hA1 (by rw [bA_len]; omega) (by omega) (by omega) (by omega) (by omega)).mono ?_
  rintro e wc ⟨rfl, oc, hA2⟩
  have hB1 := hB.only oc (by simp; omega) (by simp; omega)
  clear hA1 hB
  go_wp2_with fail
  refine (set_bad _ _ _ (splice bA 65532 (four 7)) _ 65536 7 _ hA2 (by rw [bB_len]; omega) (by omega)).mono ?_
  rintro e wd ⟨rfl, od⟩
  have hB2 := hB1.only od (by simp) (by simp)
  have hA3 := hA2.only od (by simp) (by simp)
  clear hB1 hA2
  go_wp2_with fail
  refine (write_good _ _ _ 0 _ bs0 _ 256 _ [] _ hB2 rfl (by rw [bs0_len]; omega) (Src.nil _ _)).mono ?_
  rintro e we ⟨rfl, oe, hB3⟩
  have hA4 := hA3.only oe (by simp; omega) (by simp; omega)
  rw [show splice bs0 256 [] = bs0 by simp [splice]] at hB3
  clear hB2 hA3
  go_wp2_with fail
  refine (write_bad _ _ _ bs0 _ 257 _ 0 _ _ hB3 (by rw [bs0_len]; omega)).mono ?_
  rintro e wf ⟨rfl, of_⟩
  have hB4 := hB3.only of_ (by simp) (by simp)
  have hA5 := hA4.only of_ (by simp) (by simp)
  clear hB3 hA4
  go_wp2_with fail
  refine (write_bad _ _ _ bs0 _ 255 _ 2 _ _ (hB4.only ((Only.refl [] _).alloc _) (by simp) (by simp)) (by rw [bs0_len]; omega)).mono ?_
  rintro e wg ⟨rfl, og⟩
  have og' := ((Only.refl [] wf).alloc _).trans0 og
  have hB5 := hB4.only og' (by simp) (by simp)
  have hA6 := hA5.only og' (by simp) (by simp)
  clear hB4 hA5
  go_wp2_with fail
  refine (read_good _ _ _ bs0 _ 256 0 _ hB5 (by rw [bs0_len]; omega)).mono ?_
  rintro e wh ⟨⟨g1, cap1, rfl, hv⟩, oh⟩
  have hB6 := hB5.only oh (by simp) (by simp)
  have hA7 := hA6.only oh (by simp) (by simp)
  clear hB5 hA6 hv
  go_wp2_with fail
  refine (read_bad _ _ _ bs0 _ 0 257 _ hB6 (by rw [bs0_len]; omega)).mono ?_
  rintro e wi ⟨rfl, oi⟩
  have hB7 := hB6.only oi (by simp) (by simp)
  have hA8 := hA7.only oi (by simp) (by simp)
  clear hB6 hA7
  go_wp2_with fail
  refine (read_bad _ _ _ bs0 _ 9223372036854775807 9223372036854775807 _ hB7 (by rw [bs0_len]; omega)).mono ?_
  rintro e wj ⟨rfl, oj⟩
  have hB8 := hB7.only oj (by simp) (by simp)
  have hA9 := hA8.only oj (by simp) (by simp)
  clear hB7 hA8
  go_wp2_with fail
  refine (read_bad _ _ _ bs0 _ (-1) 1 _ hB8 (by rw [bs0_len]; omega)).mono ?_
  rintro e wk ⟨rfl, ok⟩
  have hB9 := hB8.only ok (by simp) (by simp)
  have hA10 := hA9.only ok (by simp) (by simp)
  clear hB8 hA9
  have hne : (splice bA 65532 (four 7) == bs0) = false := by
    rw [beq_eq_false_iff_ne]
    intro e
    have := congrArg List.length e
    rw [bB_len, bs0_len] at this
    omega
  have HNE := hide hne
  clear hne
  go_wp2_with (first
    | (go_at_call 9; refine (num_any _ _).mono ?_; rintro e w' ⟨rfl, rfl⟩)
    | fail)
  refine (nothing_any none _ (.inl rfl)).mono ?_
  rintro e wl ⟨rfl, ol⟩
  have hB10 := hB9.only ol (by simp) (by simp)
  have hA11 := hA10.only ol (by simp) (by simp)
  clear hB9 hA10
  go_wp2_with fail
  refine (nothing_any (some ⟨wl.heap.size, 0, none⟩) _ (.inr ⟨_, rfl, Blk.new _ _ _⟩)).mono ?_
  rintro e wm ⟨rfl, om⟩
  have om' := ((Only.refl [] wl).alloc _).trans0 om
  have hB11 := hB10.only om' (by simp) (by simp)
  have hA12 := hA11.only om' (by simp) (by simp)
  clear hB10 hA11
  go_wp2_with fail
  refine (same_right none _ _ _ _ _ (.inl rfl) (by simpa using hB11.hdr.cell 0) hB11.pos).mono ?_
  rintro e w' ⟨rfl, rfl⟩
  go_wp2_with fail
  refine (same_any _ _ _ _ _ _ _ _ _ _ _ hA12 hB11).mono ?_
  rw [HNE.out]
  rintro e w' ⟨rfl, kk, rfl⟩
  go_wp2_with fail
  refine (known_any _).mono ?_
  rintro e wn ⟨rfl, on⟩
  go_wp2_with fail
  go_ret
  refine ⟨rfl, ?_⟩
  have S := [w.heap.size, w.heap.size + 1, wa.heap.size, wa.heap.size + 1]
  have hf : Only [w.heap.size, w.heap.size + 1, wa.heap.size, wa.heap.size + 1] w wn :=
    ((((((((((((((oa.mono (by simp)).trans0 ob).trans oc (by simp)).trans0 od).trans oe (by simp)).trans0 of_).trans0 og').trans0 oh).trans0 oi).trans0 oj).trans0 ok).trans0 ol).trans0 om').drewN kk).trans0 on
  have := oa.size
  exact hf.mono (by simp; omega)

theorem own : ownKnob Try.prog.godebug = none := by kernel_rfl
theorem laidOut : laidOutB Try.prog = true := by kernel_rfl

set_option maxRecDepth 100000 in
theorem lifted (os : Os) (started : os.Started) (H : Type) (enc : TypeId × Value → H) :
    ReturnsInHanded {} Try.checked os 6 .any (Rows.arenaNilSpec.pre6 enc Try.prog Try.f6 Rows.arenaNilRow.domain false) (Rows.arenaNilSpec.post enc Try.prog Try.f6 false true false false) := by
  refine returnsInHanded_of_change (C := Try.checked) own started (by kernel_rfl) Try.func6
    (ChangeSpec.witness6 (enc := enc) (C := Try.checked) false ⟨#[], #[], []⟩ 8 (by kernel_rfl) (by kernel_rfl) (by kernel_rfl) (by kernel_rfl)) ?_
  intro W base args ds gs before hval0 hW hcnd _
  have hval : ∀ (j : Nat) t v, Try.f6.params[j]? = some t → args[j]? = some v → Value.okWide Try.prog W .any base t v := hval0
  have hW' := hW
  obtain ⟨p, q, hA0, hV, rfl, hfz, hnd⟩ := hW
  have hA : DataW.TrodAll enc Try.prog W 0 (fun _ => true) true Try.f6.params.toList args.toList ds p := hA0
  rw [Try.params6] at hA hval
  obtain ⟨hargs, rfl, rfl⟩ := trodAll_nil hA
  obtain rfl : args = #[] := by cases args; simp_all
  obtain ⟨rfl, rfl⟩ := trodVars_none hV
  clear hA0 hval0
  simp only [List.append_nil] at hW'
  refine (walk W).mono fun e W' ⟨he, hg⟩ => ?_
  subst he
  exact ⟨_, rfl, _, _, _, [], _, [], hW', trodAll_mk1 (shut_bool Try.underlying4 _), trodAll_mk0, rfl, hg.below.frame _, fun h => by cases h⟩

theorem over : Rows.arenaNilRow.holds Try.pinned (OpenSpec.ofChange Rows.arenaNilSpec) :=
  OpenClaim.holds_of_wide 6 Try.f6 rfl rfl rfl rfl rfl rfl rfl ⟨rfl, rfl, rfl, rfl, rfl⟩ rfl rfl rfl rfl rfl (by kernel_rfl) Try.func6 (by kernel_rfl)
    (of_decide_eq_true (by kernel_rfl)) (by unfold Func.isWrapper; first | (rw [if_pos (by decide +kernel)]; kernel_rfl) | (rw [if_neg (by decide +kernel)]; exact ⟨rfl, rfl⟩))
    (fun os started H enc _ => lifted os started H enc)

theorem proved : Rows.ArenaNilSaid := over
#print axioms proved
end Go.Proofs.Ytdlmgijbejkgaaa.arenaNil
