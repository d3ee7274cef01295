/- Spans: the walks of Add, Sub, Times, Ticks. No condition. -/
import Derived.Test.YtcocjjapmmpgaaaDoorSp1
namespace Go.Proofs.YtcocjjapmmpgaaaDoor
open Go.RowKit
set_option linter.unusedVariables false
set_option linter.all false
set_option maxRecDepth 20000

theorem blkZ (w : World) (x y : Array Value) : Blk (((w.alloc (.cells x 23)).alloc (.cells y 23)).alloc (.cells #[.int .i64 0, .int .i64 0] 23)) (w.heap.size + 2) 23 #[.int .i64 0, .int .i64 0] := by
  have := Blk.new ((w.alloc (.cells x 23)).alloc (.cells y 23)) 23 #[.int .i64 0, .int .i64 0]
  simpa using this
theorem blkY (w : World) (x : Array Value) : Blk ((w.alloc (.cells x 23)).alloc (.cells #[.int .i64 0, .int .i64 0] 23)) (w.heap.size + 1) 23 #[.int .i64 0, .int .i64 0] := by
  have := Blk.new (w.alloc (.cells x 23)) 23 #[.int .i64 0, .int .i64 0]
  simpa using this
theorem add_any (a b c d : Int) (w : World) : Calls Tryd.prog 9 #[.agg #[.int .i64 a, .int .i64 b], .agg #[.int .i64 c, .int .i64 d]] w fun e w' => spE (addN a b c d) e ∧ Only [] w w' := by
  have C1 := fun W => may15 a b W
  have C2 := fun W => may15 c d W
  have mk1 : True := trivial
  cases h1 : mayN a b
  · rw [show addN a b c d = (0, 0, 2) by simp [addN, h1]]
    simp only [h1] at C1
    have K1 := hide C1
    clear C1 C2
    go_enter Tryd.func9, Tryd.ntmps9
    go_wp2_with (first
      | (go_at_call 15; clear mk1; refine (K1.out _).mono ?_; rintro e w' ⟨rfl, rfl⟩))
    exact bodyPost_ret (v := .tuple #[.agg #[.int .i64 0, .int .i64 0], .int .i64 2]) (by simp [results, Tryd.results9, go_sem]) rfl ⟨rfl, (by repeat (first | exact Only.refl _ _ | refine Only.alloc ?_ _))⟩
  cases h2 : mayN c d
  · rw [show addN a b c d = (0, 0, 2) by simp [addN, h2]]
    simp only [h1] at C1
    simp only [h2] at C2
    have K1 := hide C1
    have K2 := hide C2
    clear C1 C2
    go_enter Tryd.func9, Tryd.ntmps9
    go_wp2_with (first
      | (go_at_call 15; first | (clear mk1; refine (K1.out _).mono ?_; rintro e w' ⟨rfl, rfl⟩) | (refine (K2.out _).mono ?_; rintro e w' ⟨rfl, rfl⟩)))
    exact bodyPost_ret (v := .tuple #[.agg #[.int .i64 0, .int .i64 0], .int .i64 2]) (by simp [results, Tryd.results9, go_sem]) rfl ⟨rfl, (by repeat (first | exact Only.refl _ _ | refine Only.alloc ?_ _))⟩
  have b1 := may_iff.1 h1
  have b2 := may_iff.1 h2
  simp only [h1] at C1
  simp only [h2] at C2
  have K1 := hide C1
  have K2 := hide C2
  clear C1 C2
  · rw [show addN a b c d = ofN (tot a b + tot c d) by simp [addN, h1, h2]]
    rw [show tot a b + tot c d = tot (a + c) (b + d) by unfold tot; omega]
    have H1 : 0 ≤ a + c := by omega
    have H2 : a + c ≤ 4294967296 := by omega
    have H3 : -1000000000 < b + d := by omega
    have H4 : b + d ≤ 2147483648000000000 := by omega
    clear h1 h2
    go_enter Tryd.func9, Tryd.ntmps9
    go_wp2_with (first
      | (go_at_call 15; first | (clear mk1; refine (K1.out _).mono ?_; rintro e w' ⟨rfl, rfl⟩) | (refine (K2.out _).mono ?_; rintro e w' ⟨rfl, rfl⟩))
      | (go_at_call 29; refine (whole_any _ _ H1 H2 H3 H4 _).mono ?_; rintro e w' ⟨rfl, o⟩; have hz := (((blkZ w #[.int .i64 a, .int .i64 b] #[.int .i64 c, .int .i64 d]).alloc (.cells #[.int .i64 a, .int .i64 b] 23)).alloc (.cells #[.int .i64 c, .int .i64 d] 23)).only o (by simp); have z0 := hz.cell 0; have z1 := hz.cell 1; have f0 := hz.frozen 0; have f1 := hz.frozen 1; simp at z0 z1; have hl := hz.lt; have oo : Only [] w w' := Only.trans0 (by repeat (first | exact Only.refl _ _ | refine Only.alloc ?_ _)) o; clear o hz))
    refine bodyPost_ret (v := .tuple #[.agg #[.int .i64 (ofN (tot (a + c) (b + d))).1, .int .i64 (ofN (tot (a + c) (b + d))).2.1], .int .i64 (ofN (tot (a + c) (b + d))).2.2]) (by simp [results, Tryd.results9, go_sem, z0, z1]) rfl ⟨rfl, ?_⟩
    exact (oo.setCell (.inr (by simp; omega)) _).setCell (.inr (by simp; omega)) _
theorem sub_any (a b c d : Int) (w : World) : Calls Tryd.prog 11 #[.agg #[.int .i64 a, .int .i64 b], .agg #[.int .i64 c, .int .i64 d]] w fun e w' => spE (subN a b c d) e ∧ Only [] w w' := by
  have C1 := fun W => may15 a b W
  have C2 := fun W => may15 c d W
  have mk1 : True := trivial
  cases h1 : mayN a b
  · rw [show subN a b c d = (0, 0, 2) by simp [subN, h1]]
    simp only [h1] at C1
    have K1 := hide C1
    clear C1 C2
    go_enter Tryd.func11, Tryd.ntmps11
    go_wp2_with (first
      | (go_at_call 15; clear mk1; refine (K1.out _).mono ?_; rintro e w' ⟨rfl, rfl⟩))
    exact bodyPost_ret (v := .tuple #[.agg #[.int .i64 0, .int .i64 0], .int .i64 2]) (by simp [results, Tryd.results11, go_sem]) rfl ⟨rfl, (by repeat (first | exact Only.refl _ _ | refine Only.alloc ?_ _))⟩
  cases h2 : mayN c d
  · rw [show subN a b c d = (0, 0, 2) by simp [subN, h2]]
    simp only [h1] at C1
    simp only [h2] at C2
    have K1 := hide C1
    have K2 := hide C2
    clear C1 C2
    go_enter Tryd.func11, Tryd.ntmps11
    go_wp2_with (first
      | (go_at_call 15; first | (clear mk1; refine (K1.out _).mono ?_; rintro e w' ⟨rfl, rfl⟩) | (refine (K2.out _).mono ?_; rintro e w' ⟨rfl, rfl⟩)))
    exact bodyPost_ret (v := .tuple #[.agg #[.int .i64 0, .int .i64 0], .int .i64 2]) (by simp [results, Tryd.results11, go_sem]) rfl ⟨rfl, (by repeat (first | exact Only.refl _ _ | refine Only.alloc ?_ _))⟩
  have b1 := may_iff.1 h1
  have b2 := may_iff.1 h2
  simp only [h1] at C1
  simp only [h2] at C2
  have K1 := hide C1
  have K2 := hide C2
  clear C1 C2
  have CC := fun W => cmp_any a b c d W
  by_cases hlt : tot c d ≤ tot a b
  · have hc : 0 ≤ cmpN a b c d := by unfold tot at hlt; unfold cmpN; by_cases q : a = c ∧ b = d; (rw [if_pos q]; decide); (rw [if_neg q, if_neg (by omega)]; decide)
    have hc' : ¬ cmpN a b c d < 0 := by omega
    obtain ⟨q, hq⟩ : ∃ q, Hid (cmpN a b c d = q) := ⟨_, hide rfl⟩
    rw [hq.out] at hc hc'
    simp only [hq.out] at CC
    have KC := hide CC
    clear CC
    rw [show subN a b c d = ofN (tot a b - tot c d) by simp [subN, h1, h2, hlt]]
    rw [show tot a b - tot c d = tot (a - c) (b - d) by unfold tot; omega]
    have H1 : 0 ≤ a - c := by unfold tot at hlt; omega
    have H2 : a - c ≤ 4294967296 := by omega
    have H3 : -1000000000 < b - d := by omega
    have H4 : b - d ≤ 2147483648000000000 := by omega
    clear h1 h2 hlt
    go_enter Tryd.func11, Tryd.ntmps11
    go_wp2_with (first
      | (go_at_call 15; first | (clear mk1; refine (K1.out _).mono ?_; rintro e w' ⟨rfl, rfl⟩) | (refine (K2.out _).mono ?_; rintro e w' ⟨rfl, rfl⟩))
      | (go_at_call 18; refine (KC.out _).mono ?_; rintro e w' ⟨rfl, rfl⟩)
      | (go_at_call 29; refine (whole_any _ _ H1 H2 H3 H4 _).mono ?_; rintro e w' ⟨rfl, o⟩; have hz := ((((((blkZ w #[.int .i64 a, .int .i64 b] #[.int .i64 c, .int .i64 d]).alloc (.cells #[.int .i64 a, .int .i64 b] 23)).alloc (.cells #[.int .i64 c, .int .i64 d] 23)).alloc (.cells #[.int .i64 a, .int .i64 b] 23)).alloc (.cells #[.int .i64 c, .int .i64 d] 23))).only o (by simp); have z0 := hz.cell 0; have z1 := hz.cell 1; have f0 := hz.frozen 0; have f1 := hz.frozen 1; simp at z0 z1; have hl := hz.lt; have oo : Only [] w w' := Only.trans0 (by repeat (first | exact Only.refl _ _ | refine Only.alloc ?_ _)) o; clear o hz))
    refine bodyPost_ret (v := .tuple #[.agg #[.int .i64 (ofN (tot (a - c) (b - d))).1, .int .i64 (ofN (tot (a - c) (b - d))).2.1], .int .i64 (ofN (tot (a - c) (b - d))).2.2]) (by simp [results, Tryd.results11, go_sem, z0, z1]) rfl ⟨rfl, ?_⟩
    exact (oo.setCell (.inr (by simp; omega)) _).setCell (.inr (by simp; omega)) _
  · have hc' : cmpN a b c d < 0 := by unfold tot at hlt; unfold cmpN; rw [if_neg (by omega), if_pos (by omega)]; decide
    obtain ⟨q, hq⟩ : ∃ q, Hid (cmpN a b c d = q) := ⟨_, hide rfl⟩
    rw [hq.out] at hc'
    simp only [hq.out] at CC
    have KC := hide CC
    clear CC
    rw [show subN a b c d = (0, 0, 2) by simp [subN, hlt]]
    clear h1 h2 hlt
    go_enter Tryd.func11, Tryd.ntmps11
    go_wp2_with (first
      | (go_at_call 15; first | (clear mk1; refine (K1.out _).mono ?_; rintro e w' ⟨rfl, rfl⟩) | (refine (K2.out _).mono ?_; rintro e w' ⟨rfl, rfl⟩))
      | (go_at_call 18; refine (KC.out _).mono ?_; rintro e w' ⟨rfl, rfl⟩))
    exact bodyPost_ret (v := .tuple #[.agg #[.int .i64 0, .int .i64 0], .int .i64 2]) (by simp [results, Tryd.results11, go_sem]) rfl ⟨rfl, (by repeat (first | exact Only.refl _ _ | refine Only.alloc ?_ _))⟩
end Go.Proofs.YtcocjjapmmpgaaaDoor
