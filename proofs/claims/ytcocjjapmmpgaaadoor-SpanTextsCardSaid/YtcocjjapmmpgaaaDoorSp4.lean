/- Spans: the walks of the document's Add, Sub, Times. No condition. -/
import Derived.Test.YtcocjjapmmpgaaaDoorSp3
import Derived.BigQuiet
namespace Go.Proofs.YtcocjjapmmpgaaaDoor
open Go.RowKit Go.BigFrame
set_option linter.unusedVariables false
set_option linter.all false
set_option maxRecDepth 20000

/-- The worlds that a region may come to that turns nothing that lay. -/
structure Sub (W0 : World) where
  val : World
  ok : Only [] W0 val
instance (W0 : World) : Nonempty (Sub W0) := ⟨⟨W0, Only.refl [] W0⟩⟩
theorem wp_region_quiet_sub {P : Program} {id : Nat} {Q : Exit → Act → World → Prop} {a : Act} {w : World} {l : List Oper} (hm : P.follows .mixedOrders = true) (hB : Region.lexB .any l.toArray = true)
    (h : wpQuiet P l.toArray (fun w' => ∃ s : Sub w.drew, w' = s.val) (fun a' => ∀ w', (∃ s : Sub w.drew, w' = s.val) → Q .normal a' w') l a) : (Code.region id l.toArray true).wp P Q a w :=
  wp_region_quiet (C := fun w' => ∃ s : Sub w.drew, w' = s.val) hm hB ⟨⟨w.drew, Only.refl _ _⟩, rfl⟩ (by simpa using h)
theorem quiet_sub {P : Program} {f : FuncId} {args : Array Value} {W0 : World} {s : Sub W0} {v : Value} (h : Calls P f args s.val fun e w' => e = .returned v ∧ Only [] s.val w') : Calls P f args s.val fun e w'' => e = .returned v ∧ ∃ s' : Sub W0, w'' = s'.val :=
  h.mono fun e w' ⟨he, ho⟩ => ⟨he, ⟨w', s.ok.trans0 ho⟩, rfl⟩
theorem quiet_sub_same {P : Program} {f : FuncId} {args : Array Value} {W0 : World} {s : Sub W0} {v : Value} (h : Calls P f args s.val fun e w' => e = .returned v ∧ w' = s.val) : Calls P f args s.val fun e w'' => e = .returned v ∧ ∃ s' : Sub W0, w'' = s'.val :=
  h.mono fun e w' ⟨he, hw⟩ => ⟨he, s, hw⟩
theorem cell_of_only {w w' : World} {g : Nat} {t : TypeId} {x y : Value} (hz : Blk w g t #[x, y]) (o : Only [] w w') : w'.cell? ⟨g, 0, none⟩ = some x ∧ w'.cell? ⟨g, 1, none⟩ = some y ∧ w'.frozen? ⟨g, 0, none⟩ = false ∧ w'.frozen? ⟨g, 1, none⟩ = false ∧ g < w'.heap.size := by
  have h := hz.only o (by simp)
  exact ⟨by simpa using h.cell 0, by simpa using h.cell 1, h.frozen 0, h.frozen 1, h.lt⟩
theorem alls_any (s n : Int) (h : mayN s n = true) (w : World) : Calls Tryd.prog 31 #[.agg #[.int .i64 s, .int .i64 n]] w fun e w' => e = .returned (.int .i64 (tot s n)) ∧ Only [] w w' :=
  (all_any s n h w).mono fun e w' ⟨he, hw⟩ => ⟨he, hw ▸ (Only.refl [] w).alloc _⟩
theorem far2 {W : World} {p : Addr} {g : Nat} {u v x : Value} (hn : p.block ≠ g) (h : W.cell? p = some x) : ((W.setCell ⟨g, 0, none⟩ u).setCell ⟨g, 1, none⟩ v).cell? p = some x := by
  rw [World.cell?_setCell_far _ _ _ _ (fun e => hn e.symm), World.cell?_setCell_far _ _ _ _ (fun e => hn e.symm)]; exact h
theorem blk1 (w : World) (x y : Array Value) (z : Array Value) : Blk (((w.alloc (.cells x 23)).alloc (.cells y 23)).alloc (.cells z 23)) w.heap.size 23 x := ((Blk.new w 23 x).alloc _).alloc _
theorem blk2 (w : World) (x y : Array Value) (z : Array Value) : Blk (((w.alloc (.cells x 23)).alloc (.cells y 23)).alloc (.cells z 23)) (w.heap.size + 1) 23 y := by
  have := (Blk.new (w.alloc (.cells x 23)) 23 y).alloc (.cells z 23)
  simpa using this
set_option maxHeartbeats 2000000 in
theorem radd_any (a b c d : Int) (w : World) : Calls Tryd.prog 10 #[.agg #[.int .i64 a, .int .i64 b], .agg #[.int .i64 c, .int .i64 d]] w fun e w' => spE (addN a b c d) e ∧ Only [] w w' := by
  have C1 := fun W => may16 a b W
  have C2 := fun W => may16 c d W
  have mk1 : True := trivial
  have mk2 : True := trivial
  cases h1 : mayN a b
  · rw [show addN a b c d = (0, 0, 2) by simp [addN, h1]]
    simp only [h1] at C1
    have K1 := hide C1
    clear C1 C2
    go_enter Tryd.func10, Tryd.ntmps10
    go_wp2_with (first
      | (go_at_call 16; clear mk1; refine (K1.out _).mono ?_; rintro e w' ⟨rfl, rfl⟩))
    exact bodyPost_ret (v := .tuple #[.agg #[.int .i64 0, .int .i64 0], .int .i64 2]) (by simp [results, Tryd.results10, go_sem]) rfl ⟨rfl, (by repeat (first | exact Only.refl _ _ | refine Only.alloc ?_ _ | refine Only.drew ?_))⟩
  cases h2 : mayN c d
  · rw [show addN a b c d = (0, 0, 2) by simp [addN, h2]]
    simp only [h1] at C1
    simp only [h2] at C2
    have K1 := hide C1
    have K2 := hide C2
    clear C1 C2
    go_enter Tryd.func10, Tryd.ntmps10
    go_wp2_with (first
      | (go_at_call 16; first | (clear mk1; refine (K1.out _).mono ?_; rintro e w' ⟨rfl, rfl⟩) | (refine (K2.out _).mono ?_; rintro e w' ⟨rfl, rfl⟩)))
    exact bodyPost_ret (v := .tuple #[.agg #[.int .i64 0, .int .i64 0], .int .i64 2]) (by simp [results, Tryd.results10, go_sem]) rfl ⟨rfl, (by repeat (first | exact Only.refl _ _ | refine Only.alloc ?_ _ | refine Only.drew ?_))⟩
  have b1 := may_iff.1 h1
  have b2 := may_iff.1 h2
  simp only [h1] at C1
  simp only [h2] at C2
  have K1 := hide C1
  have K2 := hide C2
  clear C1 C2
  rw [show addN a b c d = ofN (tot a b + tot c d) by simp [addN, h1, h2]]
  have L1 := hide (fun W => alls_any a b h1 W)
  have L2 := hide (fun W => alls_any c d h2 W)
  have t1 : 0 ≤ tot a b := by unfold tot; omega
  have t2 : 0 ≤ tot c d := by unfold tot; omega
  have t3 : tot a b ≤ 2147483647999999999 := by unfold tot; omega
  have t4 : tot c d ≤ 2147483647999999999 := by unfold tot; omega
  generalize tot a b = X at *
  generalize tot c d = Y at *
  have KO : Hid (∀ W, Calls Tryd.prog 30 #[.int .i64 (IntKind.i64.wrap (X + Y))] W fun e w' => spE (ofN (X + Y)) e ∧ Only [] W w') := hide (by rw [IntWalk.i64_in (X + Y) (by omega)]; exact fun W => of_any (X + Y) (by omega) (by omega) W)
  clear h1 h2
  go_enter Tryd.func10, Tryd.ntmps10
  go_wp2_with (first
    | (go_at_call 16; first | (clear mk1; refine (K1.out _).mono ?_; rintro e w' ⟨rfl, rfl⟩) | (refine (K2.out _).mono ?_; rintro e w' ⟨rfl, rfl⟩)))
  have p1 := (((blk1 w #[.int .i64 a, .int .i64 b] #[.int .i64 c, .int .i64 d] #[.int .i64 0, .int .i64 0]).alloc (.cells #[.int .i64 a, .int .i64 b] 23)).alloc (.cells #[.int .i64 c, .int .i64 d] 23)).drew
  have p2 := (((blk2 w #[.int .i64 a, .int .i64 b] #[.int .i64 c, .int .i64 d] #[.int .i64 0, .int .i64 0]).alloc (.cells #[.int .i64 a, .int .i64 b] 23)).alloc (.cells #[.int .i64 c, .int .i64 d] 23)).drew
  have pz := (((blkZ w #[.int .i64 a, .int .i64 b] #[.int .i64 c, .int .i64 d]).alloc (.cells #[.int .i64 a, .int .i64 b] 23)).alloc (.cells #[.int .i64 c, .int .i64 d] 23)).drew
  obtain ⟨k0, k1, _, _, _⟩ := cell_of_only p1 (Only.refl [] _)
  obtain ⟨k2, k3, _, _, _⟩ := cell_of_only p2 (Only.refl [] _)
  have oo : Only [] w w := Only.refl _ _
  have n0 : w.heap.size ≠ w.heap.size + 1 + 1 := by omega
  have n1 : w.heap.size + 1 ≠ w.heap.size + 1 + 1 := by omega
  replace oo := oo.alloc (.cells #[.int .i64 a, .int .i64 b] 23)
  replace oo := oo.alloc (.cells #[.int .i64 c, .int .i64 d] 23)
  replace oo := oo.alloc (.cells #[.int .i64 0, .int .i64 0] 23)
  replace oo := oo.alloc (.cells #[.int .i64 a, .int .i64 b] 23)
  replace oo := oo.alloc (.cells #[.int .i64 c, .int .i64 d] 23)
  replace oo := oo.drew
  go_region_held3 (fun W => W.cell? ⟨w.heap.size, 0, none⟩ = some (.int .i64 a) ∧ W.cell? ⟨w.heap.size, 1, none⟩ = some (.int .i64 b) ∧ W.cell? ⟨w.heap.size + 1, 0, none⟩ = some (.int .i64 c) ∧ W.cell? ⟨w.heap.size + 1, 1, none⟩ = some (.int .i64 d)) (first | with_reducible exact ⟨k0, k1, k2, k3⟩ | (go_keep; done) | (refine ⟨?_, ?_, ?_, ?_⟩ <;> first | exact far2 n0 k0 | exact far2 n0 k1 | exact far2 n1 k2 | exact far2 n1 k3 | go_keep)) (first
    | (go_at_call 31; first | (clear mk2; refine (L1.out _).mono ?_; rintro e w1 ⟨rfl, o⟩; have p1 := p1.only o (by simp); have p2 := p2.only o (by simp); have pz := pz.only o (by simp); have oo := oo.trans0 o; have k0 := o.keep0 k0; have k1 := o.keep0 k1; have k2 := o.keep0 k2; have k3 := o.keep0 k3; clear o) | (refine (L2.out _).mono ?_; rintro e w2 ⟨rfl, o⟩; have p1 := p1.only o (by simp); have p2 := p2.only o (by simp); have pz := pz.only o (by simp); have oo := oo.trans0 o; have k0 := o.keep0 k0; have k1 := o.keep0 k1; have k2 := o.keep0 k2; have k3 := o.keep0 k3; clear o))
    | (go_at_call 30; refine (KO.out _).mono ?_; rintro e w' ⟨rfl, o⟩; have p1 := p1.only o (by simp); have p2 := p2.only o (by simp); have pz := pz.only o (by simp); have oo := oo.trans0 o; have k0 := o.keep0 k0; have k1 := o.keep0 k1; have k2 := o.keep0 k2; have k3 := o.keep0 k3; clear o; obtain ⟨z0, z1, f0, f1, zl⟩ := cell_of_only pz (Only.refl [] _)))
  go_wp2_with fail
  refine bodyPost_ret (v := .tuple #[.agg #[.int .i64 (ofN (X + Y)).1, .int .i64 (ofN (X + Y)).2.1], .int .i64 (ofN (X + Y)).2.2]) (by simp [results, Tryd.results10, go_sem, z0, z1]) rfl ⟨rfl, ?_⟩
  exact (oo.setCell (.inr (by first | (simp; done) | (simp; omega))) _).setCell (.inr (by first | (simp; done) | (simp; omega))) _
theorem mays16 (s n : Int) (w : World) : Calls Tryd.prog 16 #[.agg #[.int .i64 s, .int .i64 n]] w fun e w' => e = .returned (.bool (mayN s n)) ∧ Only [] w w' :=
  (may16 s n w).mono fun e w' ⟨he, hw⟩ => ⟨he, hw ▸ (Only.refl [] w).alloc _⟩
set_option maxHeartbeats 2000000 in
theorem rsub_any (a b c d : Int) (w : World) : Calls Tryd.prog 12 #[.agg #[.int .i64 a, .int .i64 b], .agg #[.int .i64 c, .int .i64 d]] w fun e w' => spE (subN a b c d) e ∧ Only [] w w' := by
  have C1 := fun W => mays16 a b W
  have C2 := fun W => mays16 c d W
  have mk1 : True := trivial
  have mk2 : True := trivial
  have mk3 : True := trivial
  have n0 : w.heap.size ≠ w.heap.size + 1 + 1 := by omega
  have n1 : w.heap.size + 1 ≠ w.heap.size + 1 + 1 := by omega
  cases h1 : mayN a b
  · rw [show subN a b c d = (0, 0, 2) by simp [subN, h1]]
    simp only [h1] at C1
    have K1 := hide C1
    have K2 := hide C2
    clear C1 C2 h1
    go_enter Tryd.func12, Tryd.ntmps12
    go_wp2_with fail
    have p1 := (blk1 w #[.int .i64 a, .int .i64 b] #[.int .i64 c, .int .i64 d] #[.int .i64 0, .int .i64 0]).drew
    have p2 := (blk2 w #[.int .i64 a, .int .i64 b] #[.int .i64 c, .int .i64 d] #[.int .i64 0, .int .i64 0]).drew
    have pz := (blkZ w #[.int .i64 a, .int .i64 b] #[.int .i64 c, .int .i64 d]).drew
    obtain ⟨k0, k1, _, _, _⟩ := cell_of_only p1 (Only.refl [] _)
    obtain ⟨k2, k3, _, _, _⟩ := cell_of_only p2 (Only.refl [] _)
    have oo : Only [] w w := Only.refl _ _
    replace oo := oo.alloc (.cells #[.int .i64 a, .int .i64 b] 23)
    replace oo := oo.alloc (.cells #[.int .i64 c, .int .i64 d] 23)
    replace oo := oo.alloc (.cells #[.int .i64 0, .int .i64 0] 23)
    replace oo := oo.drew
    have g0 : ∀ s : Sub _, s.val.cell? ⟨w.heap.size, 0, none⟩ = some (.int .i64 a) := fun s => (cell_of_only p1 s.ok).1
    have g1 : ∀ s : Sub _, s.val.cell? ⟨w.heap.size, 1, none⟩ = some (.int .i64 b) := fun s => (cell_of_only p1 s.ok).2.1
    have g2 : ∀ s : Sub _, s.val.cell? ⟨w.heap.size + 1, 0, none⟩ = some (.int .i64 c) := fun s => (cell_of_only p2 s.ok).1
    have g3 : ∀ s : Sub _, s.val.cell? ⟨w.heap.size + 1, 1, none⟩ = some (.int .i64 d) := fun s => (cell_of_only p2 s.ok).2.1
    refine wp_region_quiet_sub (by kernel_rfl) (by kernel_rfl) ?_
    repeat (go_big_quiet_step (first
      | (go_at_call 16; first | with_reducible exact quiet_sub (K1.out _) | with_reducible exact quiet_sub (K2.out _))))
    refine wpQuiet_nil ?_
    rintro _ ⟨s, rfl⟩
    replace p1 := p1.only s.ok (by simp)
    replace p2 := p2.only s.ok (by simp)
    replace pz := pz.only s.ok (by simp)
    replace oo := oo.trans0 s.ok
    all_goals obtain ⟨z0, z1, f0, f1, zl⟩ := cell_of_only pz (Only.refl [] _)
    all_goals go_wp2_with fail
    all_goals refine bodyPost_ret (v := .tuple #[.agg #[.int .i64 0, .int .i64 0], .int .i64 2]) (by simp [results, Tryd.results12, go_sem, z0, z1]) rfl ⟨rfl, ?_⟩
    all_goals exact (oo.setCell (.inr (by first | (simp; done) | (simp; omega))) _).setCell (.inr (by first | (simp; done) | (simp; omega))) _
  cases h2 : mayN c d
  · rw [show subN a b c d = (0, 0, 2) by simp [subN, h2]]
    simp only [h1] at C1
    simp only [h2] at C2
    have K1 := hide C1
    have K2 := hide C2
    clear C1 C2 h1 h2
    go_enter Tryd.func12, Tryd.ntmps12
    go_wp2_with fail
    have p1 := (blk1 w #[.int .i64 a, .int .i64 b] #[.int .i64 c, .int .i64 d] #[.int .i64 0, .int .i64 0]).drew
    have p2 := (blk2 w #[.int .i64 a, .int .i64 b] #[.int .i64 c, .int .i64 d] #[.int .i64 0, .int .i64 0]).drew
    have pz := (blkZ w #[.int .i64 a, .int .i64 b] #[.int .i64 c, .int .i64 d]).drew
    obtain ⟨k0, k1, _, _, _⟩ := cell_of_only p1 (Only.refl [] _)
    obtain ⟨k2, k3, _, _, _⟩ := cell_of_only p2 (Only.refl [] _)
    have oo : Only [] w w := Only.refl _ _
    replace oo := oo.alloc (.cells #[.int .i64 a, .int .i64 b] 23)
    replace oo := oo.alloc (.cells #[.int .i64 c, .int .i64 d] 23)
    replace oo := oo.alloc (.cells #[.int .i64 0, .int .i64 0] 23)
    replace oo := oo.drew
    have g0 : ∀ s : Sub _, s.val.cell? ⟨w.heap.size, 0, none⟩ = some (.int .i64 a) := fun s => (cell_of_only p1 s.ok).1
    have g1 : ∀ s : Sub _, s.val.cell? ⟨w.heap.size, 1, none⟩ = some (.int .i64 b) := fun s => (cell_of_only p1 s.ok).2.1
    have g2 : ∀ s : Sub _, s.val.cell? ⟨w.heap.size + 1, 0, none⟩ = some (.int .i64 c) := fun s => (cell_of_only p2 s.ok).1
    have g3 : ∀ s : Sub _, s.val.cell? ⟨w.heap.size + 1, 1, none⟩ = some (.int .i64 d) := fun s => (cell_of_only p2 s.ok).2.1
    refine wp_region_quiet_sub (by kernel_rfl) (by kernel_rfl) ?_
    repeat (go_big_quiet_step (first
      | (go_at_call 16; first | with_reducible exact quiet_sub (K1.out _) | with_reducible exact quiet_sub (K2.out _))))
    refine wpQuiet_nil ?_
    rintro _ ⟨s, rfl⟩
    replace p1 := p1.only s.ok (by simp)
    replace p2 := p2.only s.ok (by simp)
    replace pz := pz.only s.ok (by simp)
    replace oo := oo.trans0 s.ok
    all_goals obtain ⟨z0, z1, f0, f1, zl⟩ := cell_of_only pz (Only.refl [] _)
    all_goals go_wp2_with fail
    all_goals refine bodyPost_ret (v := .tuple #[.agg #[.int .i64 0, .int .i64 0], .int .i64 2]) (by simp [results, Tryd.results12, go_sem, z0, z1]) rfl ⟨rfl, ?_⟩
    all_goals exact (oo.setCell (.inr (by first | (simp; done) | (simp; omega))) _).setCell (.inr (by first | (simp; done) | (simp; omega))) _
  have b1 := may_iff.1 h1
  have b2 := may_iff.1 h2
  simp only [h1] at C1
  simp only [h2] at C2
  have K1 := hide C1
  have K2 := hide C2
  clear C1 C2
  have L1 := hide (fun W => alls_any a b h1 W)
  have L2 := hide (fun W => alls_any c d h2 W)
  have t1 : 0 ≤ tot a b := by unfold tot; omega
  have t2 : 0 ≤ tot c d := by unfold tot; omega
  have t3 : tot a b ≤ 2147483647999999999 := by unfold tot; omega
  have t4 : tot c d ≤ 2147483647999999999 := by unfold tot; omega
  by_cases hlt : tot a b < tot c d
  · rw [show subN a b c d = (0, 0, 2) by simp [subN]; omega]
    have hd : decide (tot a b < tot c d) = true := by simp [hlt]
    generalize tot a b = X at *
    generalize tot c d = Y at *
    clear h1 h2 hlt
    go_enter Tryd.func12, Tryd.ntmps12
    go_wp2_with fail
    have p1 := (blk1 w #[.int .i64 a, .int .i64 b] #[.int .i64 c, .int .i64 d] #[.int .i64 0, .int .i64 0]).drew
    have p2 := (blk2 w #[.int .i64 a, .int .i64 b] #[.int .i64 c, .int .i64 d] #[.int .i64 0, .int .i64 0]).drew
    have pz := (blkZ w #[.int .i64 a, .int .i64 b] #[.int .i64 c, .int .i64 d]).drew
    obtain ⟨k0, k1, _, _, _⟩ := cell_of_only p1 (Only.refl [] _)
    obtain ⟨k2, k3, _, _, _⟩ := cell_of_only p2 (Only.refl [] _)
    have oo : Only [] w w := Only.refl _ _
    replace oo := oo.alloc (.cells #[.int .i64 a, .int .i64 b] 23)
    replace oo := oo.alloc (.cells #[.int .i64 c, .int .i64 d] 23)
    replace oo := oo.alloc (.cells #[.int .i64 0, .int .i64 0] 23)
    replace oo := oo.drew
    have g0 : ∀ s : Sub _, s.val.cell? ⟨w.heap.size, 0, none⟩ = some (.int .i64 a) := fun s => (cell_of_only p1 s.ok).1
    have g1 : ∀ s : Sub _, s.val.cell? ⟨w.heap.size, 1, none⟩ = some (.int .i64 b) := fun s => (cell_of_only p1 s.ok).2.1
    have g2 : ∀ s : Sub _, s.val.cell? ⟨w.heap.size + 1, 0, none⟩ = some (.int .i64 c) := fun s => (cell_of_only p2 s.ok).1
    have g3 : ∀ s : Sub _, s.val.cell? ⟨w.heap.size + 1, 1, none⟩ = some (.int .i64 d) := fun s => (cell_of_only p2 s.ok).2.1
    refine wp_region_quiet_sub (by kernel_rfl) (by kernel_rfl) ?_
    repeat (go_big_quiet_step (first
      | (go_at_call 16; first | with_reducible exact quiet_sub (K1.out _) | with_reducible exact quiet_sub (K2.out _))
      | (go_at_call 31; first | with_reducible exact quiet_sub (L1.out _) | with_reducible exact quiet_sub (L2.out _))))
    refine wpQuiet_nil ?_
    rintro _ ⟨s, rfl⟩
    replace p1 := p1.only s.ok (by simp)
    replace p2 := p2.only s.ok (by simp)
    replace pz := pz.only s.ok (by simp)
    replace oo := oo.trans0 s.ok
    all_goals obtain ⟨z0, z1, f0, f1, zl⟩ := cell_of_only pz (Only.refl [] _)
    all_goals go_wp2_with fail
    all_goals refine bodyPost_ret (v := .tuple #[.agg #[.int .i64 0, .int .i64 0], .int .i64 2]) (by simp [results, Tryd.results12, go_sem, z0, z1]) rfl ⟨rfl, ?_⟩
    all_goals exact (oo.setCell (.inr (by first | (simp; done) | (simp; omega))) _).setCell (.inr (by first | (simp; done) | (simp; omega))) _
  rw [show subN a b c d = ofN (tot a b - tot c d) by simp [subN, h1, h2]; omega]
  have hd : decide (tot a b < tot c d) = false := by simp; omega
  generalize tot a b = X at *
  generalize tot c d = Y at *
  have KO : Hid (∀ W, Calls Tryd.prog 30 #[.int .i64 (IntKind.i64.wrap (X - Y))] W fun e w' => spE (ofN (X - Y)) e ∧ Only [] W w') := hide (by rw [IntWalk.i64_in (X - Y) (by omega)]; exact fun W => of_any (X - Y) (by omega) (by omega) W)
  clear h1 h2
  go_enter Tryd.func12, Tryd.ntmps12
  go_wp2_with fail
  have p1 := (blk1 w #[.int .i64 a, .int .i64 b] #[.int .i64 c, .int .i64 d] #[.int .i64 0, .int .i64 0]).drew
  have p2 := (blk2 w #[.int .i64 a, .int .i64 b] #[.int .i64 c, .int .i64 d] #[.int .i64 0, .int .i64 0]).drew
  have pz := (blkZ w #[.int .i64 a, .int .i64 b] #[.int .i64 c, .int .i64 d]).drew
  obtain ⟨k0, k1, _, _, _⟩ := cell_of_only p1 (Only.refl [] _)
  obtain ⟨k2, k3, _, _, _⟩ := cell_of_only p2 (Only.refl [] _)
  have oo : Only [] w w := Only.refl _ _
  replace oo := oo.alloc (.cells #[.int .i64 a, .int .i64 b] 23)
  replace oo := oo.alloc (.cells #[.int .i64 c, .int .i64 d] 23)
  replace oo := oo.alloc (.cells #[.int .i64 0, .int .i64 0] 23)
  replace oo := oo.drew
  have g0 : ∀ s : Sub _, s.val.cell? ⟨w.heap.size, 0, none⟩ = some (.int .i64 a) := fun s => (cell_of_only p1 s.ok).1
  have g1 : ∀ s : Sub _, s.val.cell? ⟨w.heap.size, 1, none⟩ = some (.int .i64 b) := fun s => (cell_of_only p1 s.ok).2.1
  have g2 : ∀ s : Sub _, s.val.cell? ⟨w.heap.size + 1, 0, none⟩ = some (.int .i64 c) := fun s => (cell_of_only p2 s.ok).1
  have g3 : ∀ s : Sub _, s.val.cell? ⟨w.heap.size + 1, 1, none⟩ = some (.int .i64 d) := fun s => (cell_of_only p2 s.ok).2.1
  refine wp_region_quiet_sub (by kernel_rfl) (by kernel_rfl) ?_
  repeat (go_big_quiet_step (first
    | (go_at_call 16; first | with_reducible exact quiet_sub (K1.out _) | with_reducible exact quiet_sub (K2.out _))
    | (go_at_call 31; first | with_reducible exact quiet_sub (L1.out _) | with_reducible exact quiet_sub (L2.out _))))
  refine wpQuiet_nil ?_
  rintro _ ⟨s, rfl⟩
  replace p1 := p1.only s.ok (by simp)
  replace p2 := p2.only s.ok (by simp)
  replace pz := pz.only s.ok (by simp)
  replace oo := oo.trans0 s.ok
  go_wp2_with fail
  replace p1 := p1.drew
  replace p2 := p2.drew
  replace pz := pz.drew
  replace oo := oo.drew
  obtain ⟨k0, k1, _, _, _⟩ := cell_of_only p1 (Only.refl [] _)
  obtain ⟨k2, k3, _, _, _⟩ := cell_of_only p2 (Only.refl [] _)
  go_region_held3 (fun W => W.cell? ⟨w.heap.size, 0, none⟩ = some (.int .i64 a) ∧ W.cell? ⟨w.heap.size, 1, none⟩ = some (.int .i64 b) ∧ W.cell? ⟨w.heap.size + 1, 0, none⟩ = some (.int .i64 c) ∧ W.cell? ⟨w.heap.size + 1, 1, none⟩ = some (.int .i64 d)) (first | with_reducible exact ⟨k0, k1, k2, k3⟩ | (go_keep; done) | (refine ⟨?_, ?_, ?_, ?_⟩ <;> first | exact far2 n0 k0 | exact far2 n0 k1 | exact far2 n1 k2 | exact far2 n1 k3 | go_keep)) (first
    | (go_at_call 31; first | (clear mk3; refine (L1.out _).mono ?_; rintro e w1 ⟨rfl, o⟩; have p1 := p1.only o (by simp); have p2 := p2.only o (by simp); have pz := pz.only o (by simp); have oo := oo.trans0 o; have k0 := o.keep0 k0; have k1 := o.keep0 k1; have k2 := o.keep0 k2; have k3 := o.keep0 k3; clear o) | (refine (L2.out _).mono ?_; rintro e w2 ⟨rfl, o⟩; have p1 := p1.only o (by simp); have p2 := p2.only o (by simp); have pz := pz.only o (by simp); have oo := oo.trans0 o; have k0 := o.keep0 k0; have k1 := o.keep0 k1; have k2 := o.keep0 k2; have k3 := o.keep0 k3; clear o))
    | (go_at_call 30; refine (KO.out _).mono ?_; rintro e w' ⟨rfl, o⟩; have p1 := p1.only o (by simp); have p2 := p2.only o (by simp); have pz := pz.only o (by simp); have oo := oo.trans0 o; have k0 := o.keep0 k0; have k1 := o.keep0 k1; have k2 := o.keep0 k2; have k3 := o.keep0 k3; clear o; obtain ⟨z0, z1, f0, f1, zl⟩ := cell_of_only pz (Only.refl [] _)))
  go_wp2_with fail
  refine bodyPost_ret (v := .tuple #[.agg #[.int .i64 (ofN (X - Y)).1, .int .i64 (ofN (X - Y)).2.1], .int .i64 (ofN (X - Y)).2.2]) (by simp [results, Tryd.results12, go_sem, z0, z1]) rfl ⟨rfl, ?_⟩
  exact (oo.setCell (.inr (by first | (simp; done) | (simp; omega))) _).setCell (.inr (by first | (simp; done) | (simp; omega))) _
set_option maxHeartbeats 2000000 in
theorem rtimes_any (s n k : Int) (hk1 : -9223372036854775808 ≤ k) (hk2 : k ≤ 9223372036854775807) (w : World) : Calls Tryd.prog 14 #[.agg #[.int .i64 s, .int .i64 n], .int .i64 k] w fun e w' => spE (timesN s n k) e ∧ Only [] w w' := by
  have C1 := fun W => may16 s n W
  have mk2 : True := trivial
  cases h1 : mayN s n
  · rw [times_arg (.inl h1)]
    simp only [h1] at C1
    have K1 := hide C1
    clear C1 h1
    go_enter Tryd.func14, Tryd.ntmps14
    go_wp2_with (first
      | (go_at_call 16; refine (K1.out _).mono ?_; rintro e w' ⟨rfl, rfl⟩))
    exact bodyPost_ret (v := .tuple #[.agg #[.int .i64 0, .int .i64 0], .int .i64 2]) (by simp [results, Tryd.results14, go_sem]) rfl ⟨rfl, (by repeat (first | exact Only.refl _ _ | refine Only.alloc ?_ _ | refine Only.drew ?_))⟩
  have b := may_iff.1 h1
  have hA0 : 0 ≤ tot s n := by unfold tot; omega
  have hA1 : tot s n ≤ 2147483647999999999 := by unfold tot; omega
  have L1 := hide (fun W => alls_any s n h1 W)
  simp only [h1] at C1
  have K1 := hide C1
  clear C1
  by_cases hk : k < 0
  · rw [times_arg (.inr hk)]
    clear h1
    generalize tot s n = A at *
    go_enter Tryd.func14, Tryd.ntmps14
    go_wp2_with (first
      | (go_at_call 16; refine (K1.out _).mono ?_; rintro e w' ⟨rfl, rfl⟩))
    exact bodyPost_ret (v := .tuple #[.agg #[.int .i64 0, .int .i64 0], .int .i64 2]) (by simp [results, Tryd.results14, go_sem]) rfl ⟨rfl, (by repeat (first | exact Only.refl _ _ | refine Only.alloc ?_ _ | refine Only.drew ?_))⟩
  have hgen : ¬ (0 < k ∧ 0 < tot s n ∧ 2147483647999999999 / k < tot s n) → timesN s n k = ofN (tot s n * k) := by
    intro hn
    unfold timesN
    rw [if_neg (by simp [h1]; omega), if_neg (by simp; intro a b; exact Int.not_lt.1 (fun q => hn ⟨a, b, q⟩))]
  by_cases hz : k = 0
  · rw [hgen (by omega)]
    clear hgen h1
    subst hz
    generalize tot s n = A at *
    simp only [Int.mul_zero] at *
    obtain ⟨P, hP⟩ : ∃ P : Int, P = 0 := ⟨0, rfl⟩
    rw [← hP]
    have KO : Hid (∀ W, Calls Tryd.prog 30 #[.int .i64 P] W fun e w' => spE (ofN P) e ∧ Only [] W w') := hide (fun W => of_any P (by omega) (by omega) W)
    subst hP
    go_enter Tryd.func14, Tryd.ntmps14
    go_wp2_with (first
      | (go_at_call 16; refine (K1.out _).mono ?_; rintro e w' ⟨rfl, rfl⟩))
    have p1 := ((Blk.new w 23 #[.int .i64 s, .int .i64 n]).alloc (.cells #[.int .i64 0, .int .i64 0] 23)).alloc (.cells #[.int .i64 s, .int .i64 n] 23)
    have pz := (blkY w #[.int .i64 s, .int .i64 n]).alloc (.cells #[.int .i64 s, .int .i64 n] 23)
    replace p1 := p1.drew
    replace pz := pz.drew
    obtain ⟨k0, k1, _, _, _⟩ := cell_of_only p1 (Only.refl [] _)
    have oo : Only [] w w := Only.refl _ _
    replace oo := oo.alloc (.cells #[.int .i64 s, .int .i64 n] 23)
    replace oo := oo.alloc (.cells #[.int .i64 0, .int .i64 0] 23)
    replace oo := oo.alloc (.cells #[.int .i64 s, .int .i64 n] 23)
    replace oo := oo.drew
    have g0 : ∀ V : Sub _, V.val.cell? ⟨w.heap.size, 0, none⟩ = some (.int .i64 s) := fun V => (cell_of_only p1 V.ok).1
    have g1 : ∀ V : Sub _, V.val.cell? ⟨w.heap.size, 1, none⟩ = some (.int .i64 n) := fun V => (cell_of_only p1 V.ok).2.1
    refine wp_region_quiet_sub (by kernel_rfl) (by kernel_rfl) ?_
    repeat (go_big_quiet_step (first
      | (go_at_call 31; with_reducible exact quiet_sub (L1.out _))))
    refine wpQuiet_nil ?_
    rintro _ ⟨V, rfl⟩
    replace p1 := p1.only V.ok (by simp)
    replace pz := pz.only V.ok (by simp)
    replace oo := oo.trans0 V.ok
    obtain ⟨k0, k1, _, _, _⟩ := cell_of_only p1 (Only.refl [] _)
    all_goals go_wp2_with (first
      | (go_at_call 31; refine (L1.out _).mono ?_; rintro e w2 ⟨rfl, o⟩; have p1 := p1.only o (by simp); have pz := pz.only o (by simp); have oo := oo.trans0 o; have k0 := o.keep0 k0; have k1 := o.keep0 k1; clear o)
      | (go_at_call 30; refine (KO.out _).mono ?_; rintro e w' ⟨rfl, o⟩; have p1 := p1.only o (by simp); have pz := pz.only o (by simp); have oo := oo.trans0 o; have k0 := o.keep0 k0; have k1 := o.keep0 k1; clear o; obtain ⟨z0, z1, f0, f1, zl⟩ := cell_of_only pz (Only.refl [] _)))
    all_goals refine bodyPost_ret (v := .tuple #[.agg #[.int .i64 (ofN 0).1, .int .i64 (ofN 0).2.1], .int .i64 (ofN 0).2.2]) (by simp [results, Tryd.results14, go_sem, z0, z1]) rfl ⟨rfl, ?_⟩
    all_goals exact (oo.setCell (.inr (by first | (simp; done) | (simp; omega))) _).setCell (.inr (by first | (simp; done) | (simp; omega))) _
  by_cases ht : tot s n = 0
  · rw [hgen (by omega)]
    clear hgen h1
    generalize tot s n = A at *
    subst ht
    have hkp : 0 < k := by omega
    have gk : decide (0 < k) = true := by simp; omega
    simp only [Int.zero_mul] at *
    obtain ⟨P, hP⟩ : ∃ P : Int, P = 0 := ⟨0, rfl⟩
    rw [← hP]
    have KO : Hid (∀ W, Calls Tryd.prog 30 #[.int .i64 P] W fun e w' => spE (ofN P) e ∧ Only [] W w') := hide (fun W => of_any P (by omega) (by omega) W)
    subst hP
    go_enter Tryd.func14, Tryd.ntmps14
    go_wp2_with (first
      | (go_at_call 16; refine (K1.out _).mono ?_; rintro e w' ⟨rfl, rfl⟩))
    have p1 := ((Blk.new w 23 #[.int .i64 s, .int .i64 n]).alloc (.cells #[.int .i64 0, .int .i64 0] 23)).alloc (.cells #[.int .i64 s, .int .i64 n] 23)
    have pz := (blkY w #[.int .i64 s, .int .i64 n]).alloc (.cells #[.int .i64 s, .int .i64 n] 23)
    replace p1 := p1.drew
    replace pz := pz.drew
    obtain ⟨k0, k1, _, _, _⟩ := cell_of_only p1 (Only.refl [] _)
    have oo : Only [] w w := Only.refl _ _
    replace oo := oo.alloc (.cells #[.int .i64 s, .int .i64 n] 23)
    replace oo := oo.alloc (.cells #[.int .i64 0, .int .i64 0] 23)
    replace oo := oo.alloc (.cells #[.int .i64 s, .int .i64 n] 23)
    replace oo := oo.drew
    have g0 : ∀ V : Sub _, V.val.cell? ⟨w.heap.size, 0, none⟩ = some (.int .i64 s) := fun V => (cell_of_only p1 V.ok).1
    have g1 : ∀ V : Sub _, V.val.cell? ⟨w.heap.size, 1, none⟩ = some (.int .i64 n) := fun V => (cell_of_only p1 V.ok).2.1
    refine wp_region_quiet_sub (by kernel_rfl) (by kernel_rfl) ?_
    repeat (go_big_quiet_step (first
      | (go_at_call 31; with_reducible exact quiet_sub (L1.out _))))
    refine wpQuiet_nil ?_
    rintro _ ⟨V, rfl⟩
    replace p1 := p1.only V.ok (by simp)
    replace pz := pz.only V.ok (by simp)
    replace oo := oo.trans0 V.ok
    obtain ⟨k0, k1, _, _, _⟩ := cell_of_only p1 (Only.refl [] _)
    all_goals go_wp2_with (first
      | (go_at_call 31; refine (L1.out _).mono ?_; rintro e w2 ⟨rfl, o⟩; have p1 := p1.only o (by simp); have pz := pz.only o (by simp); have oo := oo.trans0 o; have k0 := o.keep0 k0; have k1 := o.keep0 k1; clear o)
      | (go_at_call 30; refine (KO.out _).mono ?_; rintro e w' ⟨rfl, o⟩; have p1 := p1.only o (by simp); have pz := pz.only o (by simp); have oo := oo.trans0 o; have k0 := o.keep0 k0; have k1 := o.keep0 k1; clear o; obtain ⟨z0, z1, f0, f1, zl⟩ := cell_of_only pz (Only.refl [] _)))
    all_goals refine bodyPost_ret (v := .tuple #[.agg #[.int .i64 (ofN 0).1, .int .i64 (ofN 0).2.1], .int .i64 (ofN 0).2.2]) (by simp [results, Tryd.results14, go_sem, z0, z1]) rfl ⟨rfl, ?_⟩
    all_goals exact (oo.setCell (.inr (by first | (simp; done) | (simp; omega))) _).setCell (.inr (by first | (simp; done) | (simp; omega))) _
  have e1 : (2147483647999999999 : Int).tdiv k = 2147483647999999999 / k := Int.tdiv_eq_ediv_of_nonneg (by decide)
  have q0 : 0 ≤ 2147483647999999999 / k := Int.ediv_nonneg (by decide) (by omega)
  have q1 : 2147483647999999999 / k ≤ 2147483647999999999 := Int.ediv_le_self _ (by decide)
  have hkp : 0 < k := by omega
  have gk : decide (0 < k) = true := by simp; omega
  have gA : decide (0 < tot s n) = true := by simp; omega
  have kn : ¬ k = 0 := by omega
  have kz : (k == 0) = false := by simp; omega
  by_cases hf : 2147483647999999999 / k < tot s n
  · rw [show timesN s n k = (0, 0, 5) by unfold timesN; rw [if_neg (by simp [h1]; omega), if_pos (by simp; omega)]]
    have gf : decide (2147483647999999999 / k < tot s n) = true := by simp [hf]
    clear hgen h1
    generalize tot s n = A at *
    generalize 2147483647999999999 / k = Q at *
    have wq : IntKind.i64.wrap Q = Q := IntWalk.i64_in Q (by omega)
    go_enter Tryd.func14, Tryd.ntmps14
    go_wp2_with (first
      | (go_at_call 16; refine (K1.out _).mono ?_; rintro e w' ⟨rfl, rfl⟩))
    have p1 := ((Blk.new w 23 #[.int .i64 s, .int .i64 n]).alloc (.cells #[.int .i64 0, .int .i64 0] 23)).alloc (.cells #[.int .i64 s, .int .i64 n] 23)
    have pz := (blkY w #[.int .i64 s, .int .i64 n]).alloc (.cells #[.int .i64 s, .int .i64 n] 23)
    replace p1 := p1.drew
    replace pz := pz.drew
    obtain ⟨k0, k1, _, _, _⟩ := cell_of_only p1 (Only.refl [] _)
    have oo : Only [] w w := Only.refl _ _
    replace oo := oo.alloc (.cells #[.int .i64 s, .int .i64 n] 23)
    replace oo := oo.alloc (.cells #[.int .i64 0, .int .i64 0] 23)
    replace oo := oo.alloc (.cells #[.int .i64 s, .int .i64 n] 23)
    replace oo := oo.drew
    have g0 : ∀ V : Sub _, V.val.cell? ⟨w.heap.size, 0, none⟩ = some (.int .i64 s) := fun V => (cell_of_only p1 V.ok).1
    have g1 : ∀ V : Sub _, V.val.cell? ⟨w.heap.size, 1, none⟩ = some (.int .i64 n) := fun V => (cell_of_only p1 V.ok).2.1
    refine wp_region_quiet_sub (by kernel_rfl) (by kernel_rfl) ?_
    repeat (go_big_quiet_step (first
      | (go_at_call 31; with_reducible exact quiet_sub (L1.out _))))
    refine wpQuiet_nil ?_
    rintro _ ⟨V, rfl⟩
    replace p1 := p1.only V.ok (by simp)
    replace pz := pz.only V.ok (by simp)
    replace oo := oo.trans0 V.ok
    obtain ⟨k0, k1, _, _, _⟩ := cell_of_only p1 (Only.refl [] _)
    all_goals obtain ⟨z0, z1, f0, f1, zl⟩ := cell_of_only pz (Only.refl [] _)
    all_goals go_wp2_with fail
    all_goals refine bodyPost_ret (v := .tuple #[.agg #[.int .i64 0, .int .i64 0], .int .i64 5]) (by simp [results, Tryd.results14, go_sem, z0, z1]) rfl ⟨rfl, ?_⟩
    all_goals exact (oo.setCell (.inr (by first | (simp; done) | (simp; omega))) _).setCell (.inr (by first | (simp; done) | (simp; omega))) _
  rw [hgen (by omega)]
  have gf : decide (2147483647999999999 / k < tot s n) = false := by simp; omega
  have hm := mt (mul_quot (k := tot s n) (A := k) (B := 2147483647999999999) (by omega) (by decide)).2 hf
  have hl := mul_low (A := tot s n) (k := k) (by omega) (by omega)
  rw [Int.mul_comm] at hm
  clear hgen h1 hf
  generalize tot s n = A at *
  generalize 2147483647999999999 / k = Q at *
  have wq : IntKind.i64.wrap Q = Q := IntWalk.i64_in Q (by omega)
  obtain ⟨P, hP⟩ : ∃ P, A * k = P := ⟨_, rfl⟩
  simp only [hP] at hm hl ⊢
  have KO : Hid (∀ W, Calls Tryd.prog 30 #[.int .i64 P] W fun e w' => spE (ofN P) e ∧ Only [] W w') := hide (fun W => of_any P (by omega) (by omega) W)
  go_enter Tryd.func14, Tryd.ntmps14
  go_wp2_with (first
    | (go_at_call 16; refine (K1.out _).mono ?_; rintro e w' ⟨rfl, rfl⟩))
  have p1 := ((Blk.new w 23 #[.int .i64 s, .int .i64 n]).alloc (.cells #[.int .i64 0, .int .i64 0] 23)).alloc (.cells #[.int .i64 s, .int .i64 n] 23)
  have pz := (blkY w #[.int .i64 s, .int .i64 n]).alloc (.cells #[.int .i64 s, .int .i64 n] 23)
  replace p1 := p1.drew
  replace pz := pz.drew
  obtain ⟨k0, k1, _, _, _⟩ := cell_of_only p1 (Only.refl [] _)
  have oo : Only [] w w := Only.refl _ _
  replace oo := oo.alloc (.cells #[.int .i64 s, .int .i64 n] 23)
  replace oo := oo.alloc (.cells #[.int .i64 0, .int .i64 0] 23)
  replace oo := oo.alloc (.cells #[.int .i64 s, .int .i64 n] 23)
  replace oo := oo.drew
  have g0 : ∀ V : Sub _, V.val.cell? ⟨w.heap.size, 0, none⟩ = some (.int .i64 s) := fun V => (cell_of_only p1 V.ok).1
  have g1 : ∀ V : Sub _, V.val.cell? ⟨w.heap.size, 1, none⟩ = some (.int .i64 n) := fun V => (cell_of_only p1 V.ok).2.1
  refine wp_region_quiet_sub (by kernel_rfl) (by kernel_rfl) ?_
  repeat (go_big_quiet_step (first
    | (go_at_call 31; with_reducible exact quiet_sub (L1.out _))))
  refine wpQuiet_nil ?_
  rintro _ ⟨V, rfl⟩
  replace p1 := p1.only V.ok (by simp)
  replace pz := pz.only V.ok (by simp)
  replace oo := oo.trans0 V.ok
  obtain ⟨k0, k1, _, _, _⟩ := cell_of_only p1 (Only.refl [] _)
  all_goals go_wp2_with (first
    | (go_at_call 31; refine (L1.out _).mono ?_; rintro e w2 ⟨rfl, o⟩; have p1 := p1.only o (by simp); have pz := pz.only o (by simp); have oo := oo.trans0 o; have k0 := o.keep0 k0; have k1 := o.keep0 k1; clear o)
    | (go_at_call 30; refine (KO.out _).mono ?_; rintro e w' ⟨rfl, o⟩; have p1 := p1.only o (by simp); have pz := pz.only o (by simp); have oo := oo.trans0 o; have k0 := o.keep0 k0; have k1 := o.keep0 k1; clear o; obtain ⟨z0, z1, f0, f1, zl⟩ := cell_of_only pz (Only.refl [] _)))
  all_goals refine bodyPost_ret (v := .tuple #[.agg #[.int .i64 (ofN P).1, .int .i64 (ofN P).2.1], .int .i64 (ofN P).2.2]) (by simp [results, Tryd.results14, go_sem, z0, z1]) rfl ⟨rfl, ?_⟩
  all_goals exact (oo.setCell (.inr (by first | (simp; done) | (simp; omega))) _).setCell (.inr (by first | (simp; done) | (simp; omega))) _
end Go.Proofs.YtcocjjapmmpgaaaDoor
