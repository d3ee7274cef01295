/- Walks over the law's own functions: known, nothing. -/
import Derived.Test.YtdlmgijbejkgaaaAr7
namespace Go.Proofs.Ytdlmgijbejkgaaa
open Go.RowKit
set_option linter.unusedVariables false
set_option linter.unusedSimpArgs false

def bs0 : List UInt8 := List.replicate 256 0
def bs1 : List UInt8 := splice bs0 8 (four 16777221)
def bs2 : List UInt8 := splice bs1 7 [1, 2]
theorem bs0_len : bs0.length = 256 := by decide +kernel
theorem bs1_len : bs1.length = 256 := by decide +kernel
theorem bs2_len : bs2.length = 256 := by decide +kernel
theorem w1_8 : word bs1 8 = 16777221 := by decide +kernel
theorem w2_8 : word bs2 8 = 16777218 := by decide +kernel
theorem w2_4 : word bs2 4 = 16777216 := by decide +kernel
theorem r1_8 : (bs1.drop 8).take 4 = [5, 0, 0, 1] := by decide +kernel

set_option maxRecDepth 100000 in
set_option maxHeartbeats 4000000 in
theorem known_any (w : World) : Calls Try.prog 7 #[] w fun e w' => e = .returned (.bool true) ∧ Only [] w w' := by
  go_enter Try.func7, Try.ntmps7
  go_wp2_with fail
  refine (new_good 256 w (by omega) (by omega) (by omega)).mono ?_
  rintro e wa ⟨rfl, oa, ha⟩
  go_wp2_with fail
  refine (new_bad 255 wa (by omega) (by omega) (by omega)).mono ?_
  rintro e w' ⟨rfl, rfl⟩
  go_wp2_with fail
  refine (new_bad 260 wa (by omega) (by omega) (by omega)).mono ?_
  rintro e w' ⟨rfl, rfl⟩
  go_wp2_with fail
  refine (new_bad 65544 wa (by omega) (by omega) (by omega)).mono ?_
  rintro e w' ⟨rfl, rfl⟩
  have L0 := hide bs0_len
  have hA : Ar wa (w.heap.size + 1) w.heap.size 256 bs0 0 := ha
  clear ha
  go_wp2_with fail
  refine (get_bad _ _ _ bs0 _ 2 _ hA (by omega) (by omega)).mono ?_
  rintro e wb ⟨rfl, ob⟩
  have hB := hA.only ob (by simp) (by simp)
  go_wp2_with fail
  refine (get_bad _ _ _ bs0 _ 256 _ hB (by rw [bs0_len]; omega) (by omega)).mono ?_
  rintro e wc ⟨rfl, oc⟩
  have hC := hB.only oc (by simp) (by simp)
  go_wp2_with fail
  refine (set_bad _ _ _ bs0 _ (-4) 1 _ hC (by omega) (by omega)).mono ?_
  rintro e wd ⟨rfl, od⟩
  have hD := hC.only od (by simp) (by simp)
  go_wp2_with fail
  refine (set_good _ _ _ bs0 _ 8 16777221 _ hD (by rw [bs0_len]; omega) (by omega) (by omega) (by omega) (by omega)).mono ?_
  rintro e we ⟨rfl, oe, hE'⟩
  have hE : Ar we (w.heap.size + 1) w.heap.size 256 bs1 1 := hE'
  clear hE'
  go_wp2_with fail
  refine (get_good _ _ _ bs1 _ 8 _ hE (by rw [bs1_len]; omega) (by omega) (by omega) (by omega)).mono ?_
  rw [w1_8]
  rintro e wf ⟨rfl, of_, hF⟩
  go_wp2_with fail
  refine (read_good _ _ _ bs1 _ 8 4 _ hF (by rw [bs1_len]; omega)).mono ?_
  rw [r1_8]
  rintro e wg ⟨⟨g1, cap1, rfl, hv⟩, og⟩
  have hG := hF.only og (by simp) (by simp)
  go_wp2_with fail
  refine (cost_any _ _ _ bs1 _ _ hG).mono ?_
  rintro e w' ⟨rfl, rfl⟩
  have hG2 : Ar wg (w.heap.size + 1) w.heap.size 256 bs1 2 := hG
  go_wp2_with fail
  refine (write_good _ _ _ 2 _ bs1 _ 7 _ [1, 2] _ (hG2.only ((Only.refl [] wg).alloc (.cells #[.int .u8 1, .int .u8 2] 5)) (by simp) (by simp)) rfl (by rw [bs1_len]; omega) (fun _ => ⟨_, rfl, fun j u hj => by
    have hbn := Blk.new wg 5 #[.int .u8 1, .int .u8 2]
    rw [add_mk, Nat.zero_add, hbn.cell j, List.getElem?_toArray]
    exact hj⟩)).mono ?_
  rintro e wh ⟨rfl, oh, hH'⟩
  have hH : Ar wh (w.heap.size + 1) w.heap.size 256 bs2 2 := hH'
  clear hH'
  go_wp2_with fail
  refine (get_good _ _ _ bs2 _ 8 _ hH (by rw [bs2_len]; omega) (by omega) (by omega) (by omega)).mono ?_
  rw [w2_8]
  rintro e wi ⟨rfl, oi, hI⟩
  go_wp2_with fail
  refine (get_good _ _ _ bs2 _ 4 _ hI (by rw [bs2_len]; omega) (by omega) (by omega) (by omega)).mono ?_
  rw [w2_4]
  rintro e wj ⟨rfl, oj, hJ⟩
  go_wp2_with fail
  refine (reset_any _ _ _ bs2 _ _ hJ (by omega)).mono ?_
  rintro e wk ⟨rfl, ok, hK⟩
  have hsw : Src wk (some ⟨g1, 0, none⟩) [5, 0, 0, 1] := by
    have hO : Only [w.heap.size + 1, w.heap.size] wg wk := ((((((Only.refl _ wg).alloc _).trans oh (by simp)).trans oi (by simp)).trans oj (by simp)).trans ok (by simp))
    have hlt := hv.lt g1 rfl
    have h1 := hF.hdr.lt
    exact (Src.own hv).only hO (by intro ad e _; injection e with e; subst e; simp; omega)
  have hcv := run_str (P := Try.prog) (dst := 9) Try.underlying36 Try.underlying5 Try.underlying9 4 cap1 rfl hsw
  go_wp2_with (first
    | (go_at_call 9; refine (num_any _ _).mono ?_; rintro e w' ⟨rfl, rfl⟩)
    | (go_at_call 14; refine (cost_any _ _ _ bs2 _ _ hK).mono ?_; rintro e w' ⟨rfl, rfl⟩))
  go_ret
  refine ⟨rfl, ?_⟩
  have h0 : Only [w.heap.size + 1, w.heap.size] w wk := ((((((((((oa.mono (by simp)).trans0 ob).trans0 oc).trans0 od).trans' (oe.mono (by simp))).trans of_ (by simp)).trans0 og).alloc _).trans oh (by simp)).trans oi (by simp)).trans oj (by simp) |>.trans ok (by simp)
  exact h0.mono (by simp)

set_option maxHeartbeats 1000000 in
theorem nothing_any (p : Option Addr) (w : World) (h : Gone w p) : Calls Try.prog 21 #[.pointer p] w fun e w' => e = .returned (.bool true) ∧ Only [] w w' := by
  have H := hide h
  clear h
  go_enter Try.func21, Try.ntmps21
  go_wp2_with fail
  refine (get_gone _ _ _ H.out).mono ?_
  rintro e wa ⟨rfl, oa⟩
  have HA := hide (H.out.only oa)
  go_wp2_with fail
  refine (read_gone _ _ _ _ HA.out).mono ?_
  rintro e wb ⟨rfl, ob⟩
  have HB := hide (HA.out.only ob)
  go_wp2_with (first
    | (go_at_call 9; refine (num_any _ _).mono ?_; rintro e w' ⟨rfl, rfl⟩)
    | (go_at_call 11; refine (set_gone _ _ _ _ HB.out).mono ?_; rintro e wc ⟨rfl, oc⟩; have HC := hide (HB.out.only oc))
    | (go_at_call 20; refine (write_gone _ _ _ _ _ _ HC.out).mono ?_; rintro e wd ⟨rfl, od⟩; have HD := hide (HC.out.only od))
    | (go_at_call 36; refine (size_gone _ _ HD.out).mono ?_; rintro e w' ⟨rfl, rfl⟩)
    | (go_at_call 14; refine (cost_gone _ _ HD.out).mono ?_; rintro e w' ⟨rfl, rfl⟩)
    | (go_at_call 22; refine (reset_gone _ _ HD.out).mono ?_; rintro e w' ⟨rfl, rfl⟩)
    | (go_at_call 34; refine (copy_gone _ _ HD.out).mono ?_; rintro e w' ⟨rfl, rfl⟩)
    | (go_at_call 17; refine (same_gone _ _ _ HD.out (.inl rfl)).mono ?_; rintro e w' ⟨rfl, rfl⟩))
  go_ret
  exact ⟨rfl, ((oa.trans0 ob).trans0 oc).trans0 od⟩
end Go.Proofs.Ytdlmgijbejkgaaa
