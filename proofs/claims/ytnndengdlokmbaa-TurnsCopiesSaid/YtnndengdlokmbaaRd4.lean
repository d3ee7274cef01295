/- Ready lists: the walk of join. Condition: the list lies. -/
import Derived.Test.YtnndengdlokmbaaRd3
namespace Go.Proofs.Ytnndengdlokmbaa
open Go.RowKit
set_option linter.unusedVariables false
set_option linter.all false
set_option maxRecDepth 20000

def link? (a : Int) : Prop := a = -1 ∨ ∃ u : Nat, u < 16 ∧ a = (u : Int)
theorem join_any (g p : Nat) (a b : Int) (hp : p < 32) (ha : link? a) (hb : link? b) (s : RS) (prio : Nat → Int) (bits : Nat) (st : Int) (hst : 0 ≤ st ∧ st < 1000000000) (w : World) (h : RB w g s prio bits st) :
    Calls Try.prog 69 #[ptr g, .int .i64 p, .int .i64 a, .int .i64 b] w fun e w' => e = .returned (.tuple #[]) ∧ RB w' g (s.join p a b) prio bits (st + 2) ∧ Only [g] w w' := by
  obtain ⟨cs, hB, hC⟩ := h
  have mk1 : True := trivial
  have hz := hC.size
  have q1 : (0 : Int) ≤ (p : Int) := by omega
  have q2 : (p : Int) < 32 := by omega
  rcases ha with rfl | ⟨u, hu, rfl⟩ <;> rcases hb with rfl | ⟨v, hv, rfl⟩
  · have C1 := ((hC.setSteps (st + 1)).setHead p hp (-1))
    have L1 := hide (link_blk g (2 + p) st (-1) _ (by omega) w hB hC.steps (hC.head p hp) (by omega))
    have L2 : Hid (∀ w1, Blk w1 g 78 _ → Calls Try.prog 72 #[ptr g, .pointer (some ⟨g, 34 + p, none⟩), .int .i64 (-1)] w1 fun e w' => e = .returned (.tuple #[]) ∧ Blk w' g 78 _ ∧ Only [g] w1 w') := hide (fun w1 B1 => link_blk g (34 + p) (st + 1) (-1) _ (by omega) w1 B1 C1.steps (C1.tail p hp) (by omega))
    have CF := hide ((C1.setSteps (st + 1 + 1)).setTail p hp (-1))
    clear C1 hC hB
    unfold ptr at L1 L2 ⊢
    go_enter Try.func69, Try.ntmps69
    go_wp2_with (first
      | (go_at_call 72; first
        | (clear mk1; refine (L1.out).mono ?_; rintro e w1 ⟨rfl, B1, o1⟩)
        | (refine (L2.out _ B1).mono ?_; rintro e w2 ⟨rfl, B2, o2⟩)))
    go_end0
    refine ⟨rfl, ⟨_, B2, ?_⟩, o1.trans o2 (fun x hx => .inl hx)⟩
    have hF := CF.out
    rw [show st + 2 = st + 1 + 1 by omega]
    unfold RS.join RS.join1 RS.join2
    simpa [neg_ne] using hF
  · have C1 := ((hC.setSteps (st + 1)).setHead p hp (v : Int))
    have L1 := hide (link_blk g (2 + p) st (v : Int) _ (by omega) w hB hC.steps (hC.head p hp) (by omega))
    have L2 : Hid (∀ w1, Blk w1 g 78 _ → Calls Try.prog 72 #[ptr g, .pointer (some ⟨g, 82 + v, none⟩), .int .i64 (-1)] w1 fun e w' => e = .returned (.tuple #[]) ∧ Blk w' g 78 _ ∧ Only [g] w1 w') := hide (fun w1 B1 => link_blk g (82 + v) (st + 1) (-1) _ (by omega) w1 B1 C1.steps (C1.prev v hv) (by omega))
    have CF := hide ((C1.setSteps (st + 1 + 1)).setPrev v hv (-1))
    have gb : ((v : Int) == -1) = false := by first | (simp; done) | (simp; omega)
    have r2 : (v : Int) < 16 := by omega
    clear C1 hC hB
    unfold ptr at L1 L2 ⊢
    go_enter Try.func69, Try.ntmps69
    go_wp2_with (first
      | (go_at_call 72; first
        | (clear mk1; refine (L1.out).mono ?_; rintro e w1 ⟨rfl, B1, o1⟩)
        | (refine (L2.out _ B1).mono ?_; rintro e w2 ⟨rfl, B2, o2⟩)))
    go_end0
    refine ⟨rfl, ⟨_, B2, ?_⟩, o1.trans o2 (fun x hx => .inl hx)⟩
    have hF := CF.out
    rw [show st + 2 = st + 1 + 1 by omega]
    unfold RS.join RS.join1 RS.join2
    simpa [neg_ne] using hF
  · have C1 := ((hC.setSteps (st + 1)).setNext u hu (-1))
    have L1 := hide (link_blk g (66 + u) st (-1) _ (by omega) w hB hC.steps (hC.next u hu) (by omega))
    have L2 : Hid (∀ w1, Blk w1 g 78 _ → Calls Try.prog 72 #[ptr g, .pointer (some ⟨g, 34 + p, none⟩), .int .i64 (u : Int)] w1 fun e w' => e = .returned (.tuple #[]) ∧ Blk w' g 78 _ ∧ Only [g] w1 w') := hide (fun w1 B1 => link_blk g (34 + p) (st + 1) (u : Int) _ (by omega) w1 B1 C1.steps (C1.tail p hp) (by omega))
    have CF := hide ((C1.setSteps (st + 1 + 1)).setTail p hp (u : Int))
    have ga : ((u : Int) == -1) = false := by first | (simp; done) | (simp; omega)
    have r1 : (u : Int) < 16 := by omega
    clear C1 hC hB
    unfold ptr at L1 L2 ⊢
    go_enter Try.func69, Try.ntmps69
    go_wp2_with (first
      | (go_at_call 72; first
        | (clear mk1; refine (L1.out).mono ?_; rintro e w1 ⟨rfl, B1, o1⟩)
        | (refine (L2.out _ B1).mono ?_; rintro e w2 ⟨rfl, B2, o2⟩)))
    go_end0
    refine ⟨rfl, ⟨_, B2, ?_⟩, o1.trans o2 (fun x hx => .inl hx)⟩
    have hF := CF.out
    rw [show st + 2 = st + 1 + 1 by omega]
    unfold RS.join RS.join1 RS.join2
    simpa [neg_ne] using hF
  · have C1 := ((hC.setSteps (st + 1)).setNext u hu (v : Int))
    have L1 := hide (link_blk g (66 + u) st (v : Int) _ (by omega) w hB hC.steps (hC.next u hu) (by omega))
    have L2 : Hid (∀ w1, Blk w1 g 78 _ → Calls Try.prog 72 #[ptr g, .pointer (some ⟨g, 82 + v, none⟩), .int .i64 (u : Int)] w1 fun e w' => e = .returned (.tuple #[]) ∧ Blk w' g 78 _ ∧ Only [g] w1 w') := hide (fun w1 B1 => link_blk g (82 + v) (st + 1) (u : Int) _ (by omega) w1 B1 C1.steps (C1.prev v hv) (by omega))
    have CF := hide ((C1.setSteps (st + 1 + 1)).setPrev v hv (u : Int))
    have ga : ((u : Int) == -1) = false := by first | (simp; done) | (simp; omega)
    have r1 : (u : Int) < 16 := by omega
    have gb : ((v : Int) == -1) = false := by first | (simp; done) | (simp; omega)
    have r2 : (v : Int) < 16 := by omega
    clear C1 hC hB
    unfold ptr at L1 L2 ⊢
    go_enter Try.func69, Try.ntmps69
    go_wp2_with (first
      | (go_at_call 72; first
        | (clear mk1; refine (L1.out).mono ?_; rintro e w1 ⟨rfl, B1, o1⟩)
        | (refine (L2.out _ B1).mono ?_; rintro e w2 ⟨rfl, B2, o2⟩)))
    go_end0
    refine ⟨rfl, ⟨_, B2, ?_⟩, o1.trans o2 (fun x hx => .inl hx)⟩
    have hF := CF.out
    rw [show st + 2 = st + 1 + 1 by omega]
    unfold RS.join RS.join1 RS.join2
    simpa [neg_ne] using hF
end Go.Proofs.Ytnndengdlokmbaa
