/- Spans: Parse, walked. Condition: Env. -/
import Derived.Test.YtcocjjapmmpgaaaDoorSp6
import Derived.Scope
import Derived.WalkMore
namespace Go.Proofs.YtcocjjapmmpgaaaDoor
open Go.RowKit Go.Shelf
set_option linter.unusedVariables false
set_option linter.all false
set_option maxRecDepth 100000
attribute [local go_sem] Oper.semAt_some

theorem wpIn_scope_wide {n : Nat} {P : Program} {c : Code} {Q : Exit → Act → World → Prop} {a : Act} {w : World} (h : c.wpIn Fence.wide n P (Exit.noGoto Q) a w) : (Code.scope c).wpIn Fence.wide n P Q a w :=
  wpIn_wide.2 (wp_scope_straight (wpIn_wide.1 h))
/-- Digits eaten: what has come, and whether there was too much. -/
def eat (a : Int) : List Dig → Int × Bool
  | [] => (a, false)
  | d :: r => if 2147483647 < a then (a, true) else eat (10 * a + d.1) r
theorem eat_snoc : ∀ (ds : List Dig) (a v : Int) (d : Dig), eat a ds = (v, false) → eat a (ds ++ [d]) = if 2147483647 < v then (v, true) else (10 * v + d.1, false)
  | [], a, v, d, h => by simp [eat] at h; subst h; simp only [List.nil_append, eat]
  | x :: r, a, v, d, h => by
    simp only [List.cons_append, eat] at h ⊢
    by_cases hc : 2147483647 < a
    · rw [if_pos hc] at h; simp at h
    · rw [if_neg hc] at h ⊢; exact eat_snoc r _ v d h
theorem eat_more : ∀ (ds r : List Dig) (a v : Int), eat a ds = (v, true) → eat a (ds ++ r) = (v, true)
  | [], r, a, v, h => by simp [eat] at h
  | x :: ds, r, a, v, h => by
    simp only [List.cons_append, eat] at h ⊢
    by_cases hc : 2147483647 < a
    · rw [if_pos hc] at h ⊢; exact h
    · rw [if_neg hc] at h ⊢; exact eat_more ds r _ v h
theorem eat_range : ∀ (ds : List Dig) (a v : Int) (b : Bool), 0 ≤ a → a ≤ 21474836479 → eat a ds = (v, b) → 0 ≤ v ∧ v ≤ 21474836479
  | [], a, v, b, h0, h1, h => by simp [eat] at h; omega
  | x :: r, a, v, b, h0, h1, h => by
    simp only [eat] at h
    by_cases hc : 2147483647 < a
    · rw [if_pos hc] at h; simp at h; omega
    · rw [if_neg hc] at h
      have hx := x.2
      exact eat_range r _ v b (by omega) (by omega) h

/-- How things stand between two rounds. -/
def St (w : World) (L Z : Nat) (a b : Int) (W : World) : Prop := Blk W L 56 #[.int .i64 a, .int .i64 b] ∧ Blk W Z 23 #[.int .i64 0, .int .i64 0] ∧ Below w.heap.size w W
theorem blk_turn {W W' : World} {row : Option Nat} {g : Nat} {t : TypeId} {cs : Array Value} (h : Blk W g t cs) (hg : W.grownBy W' row) (hr : ∀ r, row = some r → ∃ o : Obj, W.heap[r]? = some o ∧ o.isCells = false) : Blk W' g t cs := by
  refine h.grown hg (fun e => ?_)
  obtain ⟨o, ho, hc⟩ := hr g e.symm
  unfold Blk at h
  rw [h] at ho
  cases ho
  simp [Obj.isCells] at hc
theorem St.turn {w W W' : World} {row : Option Nat} {L Z B : Nat} {a b : Int} (h : St w L Z a b W) (hB : w.heap.size ≤ B) (hg : W.grownBy W' row) (hr : ∀ r, row = some r → B ≤ r ∧ ∃ o : Obj, W.heap[r]? = some o ∧ o.isCells = false) : St w L Z a b W' :=
  ⟨blk_turn h.1 hg (fun r e => (hr r e).2), blk_turn h.2.1 hg (fun r e => (hr r e).2), h.2.2.grown hg h.2.2.size (fun k e => Nat.le_trans hB (hr k e).1)⟩
theorem St.alloc {w W : World} {L Z : Nat} {a b : Int} (h : St w L Z a b W) (o : Obj) : St w L Z a b (W.alloc o) := ⟨h.1.alloc o, h.2.1.alloc o, h.2.2.alloc h.2.2.size o⟩
theorem heap_keep_alloc {W : World} {D : Nat} {o : Obj} (o' : Obj) (h : W.heap[D]? = some o) : (W.alloc o').heap[D]? = some o := (Below.heap_alloc W o' D (Array.getElem?_eq_some_iff.1 h).1).trans h
theorem St.cells {w W : World} {L Z : Nat} {a b : Int} (h : St w L Z a b W) : W.cell? ⟨L, 0, none⟩ = some (.int .i64 a) ∧ W.cell? ⟨L, 1, none⟩ = some (.int .i64 b) ∧ W.frozen? ⟨L, 0, none⟩ = false ∧ W.frozen? ⟨L, 1, none⟩ = false :=
  ⟨by simpa using h.1.cell 0, by simpa using h.1.cell 1, h.1.frozen 0, h.1.frozen 1⟩
theorem kf_set (B : Nat) (W : World) (p : Addr) (u : Value) : KeepsFrom B W (W.setCell p u).drew := KeepsFrom.trans ((KeepsOthers.setCell W p u).from B) ⟨Nat.le_refl _, fun k o _ h _ => h⟩
theorem cls_set (L : Nat) (W : World) (p : Addr) (u : Value) (hp : p.block = L) : Cls L W (W.setCell p u).drew := Cls.setCell L W p u hp
theorem St.set0 {w W : World} {L Z : Nat} {a b : Int} (h : St w L Z a b W) (u : Int) (hZ : Z ≠ L) (hl : w.heap.size ≤ L) : St w L Z u b (W.setCell ⟨L, 0, none⟩ (.int .i64 u)).drew :=
  ⟨Blk.drew (by simpa using h.1.set_ 0 (.int .i64 u)), (h.2.1.far (p := ⟨L, 0, none⟩) hZ _).drew, (h.2.2.setCell (p := ⟨L, 0, none⟩) hl _).drew⟩
theorem St.set1 {w W : World} {L Z : Nat} {a b : Int} (h : St w L Z a b W) (u : Int) (hZ : Z ≠ L) (hl : w.heap.size ≤ L) : St w L Z a u (W.setCell ⟨L, 1, none⟩ (.int .i64 u)).drew :=
  ⟨Blk.drew (by simpa using h.1.set_ 1 (.int .i64 u)), (h.2.1.far (p := ⟨L, 1, none⟩) hZ _).drew, (h.2.2.setCell (p := ⟨L, 1, none⟩) hl _).drew⟩
theorem defer_set {W : World} {D : Nat} {p : Addr} {u : Value} {ds : Option (List Deferred)} (h : W.heap[D]? = some (.deferred ds)) : (W.setCell p u).heap[D]? = some (.deferred ds) := (KeepsOthers.setCell W p u).same D _ h rfl
theorem below_of_only {n : Nat} {A B : World} (h : Only [] A B) (hn : n ≤ A.heap.size) : Below n A B := ⟨h.os, h.tape, h.output, h.size, fun k hk => h.block k (Nat.lt_of_lt_of_le hk hn) (by simp)⟩
theorem only_of_below {A B : World} (h : Below A.heap.size A B) : Only [] A B := ⟨h.os, h.tape, h.output, h.size, fun k hk _ => h.block k hk⟩
theorem Env.below {w w' : World} (h : Env w) (o : Below w.heap.size w w') : Env w' := h.only (only_of_below o)
theorem two0 {W : World} {g : Nat} {x u v : Value} (h : W.cell? ⟨g, 0, none⟩ = some x) : ((W.setCell ⟨g, 0, none⟩ u).setCell ⟨g, 1, none⟩ v).cell? ⟨g, 0, none⟩ = some u :=
  (World.cell?_setCell_other _ ⟨g, 1, none⟩ ⟨g, 0, none⟩ _ (by simp)).trans (World.cell?_setCell_same _ _ _ h)
theorem two1 {W : World} {g : Nat} {y u v : Value} (h : W.cell? ⟨g, 1, none⟩ = some y) : ((W.setCell ⟨g, 0, none⟩ u).setCell ⟨g, 1, none⟩ v).cell? ⟨g, 1, none⟩ = some v :=
  World.cell?_setCell_same _ _ _ ((World.cell?_setCell_other _ ⟨g, 0, none⟩ ⟨g, 1, none⟩ _ (by simp)).trans h)
theorem cut_len (s sep : List UInt8) : (Lib.cut s sep).1.length ≤ s.length ∧ (Lib.cut s sep).2.1.length ≤ s.length := by
  unfold Lib.cut
  split
  · exact ⟨by simp; omega, by simp⟩
  · exact ⟨Nat.le_refl _, by simp⟩
/-- What the two texts say. -/
def eats (p q : List UInt8) : Int × Int := match eat 0 (digs p) with
  | (a, true) => (a, 0)
  | (a, false) => (a, (eat 0 (digs q)).1)
/-- What Parse answers. -/
def finN (t : List UInt8) (a b : Int) : Int × Int × Int := if mayN a b = true ∧ textN a b = t then (a, b, 0) else (0, 0, 4)
def parseN (t : List UInt8) : Int × Int × Int := if 20 < t.length then (0, 0, 4) else finN t (eats (Lib.cut t [46]).1 (Lib.cut t [46]).2.1).1 (eats (Lib.cut t [46]).1 (Lib.cut t [46]).2.1).2
theorem defer_turn {W W' : World} {row : Option Nat} {D B : Nat} {o : Obj} (h : W.heap[D]? = some o) (hD : D < B) (hg : W.grownBy W' row) (hr : ∀ r, row = some r → B ≤ r ∧ ∃ o : Obj, W.heap[r]? = some o ∧ o.isCells = false) : W'.heap[D]? = some o :=
  (hg.block D (Array.getElem?_eq_some_iff.1 h).1 (fun e => by have := (hr D e.symm).1; omega)).trans h
theorem idx0 (A B : Value) (W : World) : (Instr.index 57 (.agg #[A, B]) (.int .i64 0)).run Tryd.prog W = .ok A W := by kernel_rfl
theorem idx1 (A B : Value) (W : World) : (Instr.index 57 (.agg #[A, B]) (.int .i64 1)).run Tryd.prog W = .ok B W := by kernel_rfl

set_option maxHeartbeats 4000000 in
theorem parse_any (t : ByteArray) (w : World) (henv : Env w) : Calls Tryd.prog 25 #[.string t] w fun e w' => spE (parseN t.data.toList) e ∧ Only [] w w' := by
  refine (callsIn_wide (n := 8)).1 ?_
  by_cases hlen : 20 < t.size
  · rw [show parseN t.data.toList = (0, 0, 4) by unfold parseN; rw [if_pos (show 20 < t.data.toList.length from hlen)]]
    have hl1 : decide ((20 : Int) < (t.size : Int)) = true := by simp; omega
    refine callsIn_of_wp_marks Tryd.func25 rfl trivial ?_ rfl
    simp only [Tryd.ntmps25, List.size_toArray, List.length_cons, List.length_nil, Nat.reduceAdd, Nat.reduceSub, Array.replicate_succ, Array.replicate_zero, List.push_toArray, List.append_toArray, List.nil_append, List.cons_append]
    gi_wp2
    apply wpIn_scope_wide
    gi_wp2
    exact ⟨.tuple #[.agg #[.int .i64 0, .int .i64 0], .int .i64 4], by simp [results, Tryd.results25, Tryd.f25, go_sem], rfl, (Only.refl [] w).alloc _⟩
  have hl1 : decide ((20 : Int) < (t.size : Int)) = false := by simp; omega
  obtain ⟨m, hm⟩ := henv.len
  have hm1 := cell_alloc (.cells #[.int .i64 0, .int .i64 0] 23) hm
  have CU := Tryd.strings_Cut t ⟨#[46]⟩ m
  obtain ⟨p, q, r, hp⟩ : ∃ p q r, Lib.cut t.data.toList [46] = (p, q, r) := ⟨_, _, _, rfl⟩
  have hp' : Lib.cut t.data.toList (ByteArray.mk #[46]).data.toList = (p, q, r) := hp
  rw [hp'] at CU
  have hcl := cut_len t.data.toList [46]
  have htl : t.data.toList.length = t.size := rfl
  rw [hp] at hcl
  simp only at hcl
  have hpl : p.length ≤ 20 := by omega
  have hql : q.length ≤ 20 := by omega
  rw [show parseN t.data.toList = finN t.data.toList (eats p q).1 (eats p q).2 by unfold parseN; rw [if_neg (show ¬ 20 < t.data.toList.length from hlen), hp]]
  refine callsIn_of_wp_marks Tryd.func25 rfl trivial ?_ rfl
  simp only [Tryd.ntmps25, List.size_toArray, List.length_cons, List.length_nil, Nat.reduceAdd, Nat.reduceSub, Array.replicate_succ, Array.replicate_zero, List.push_toArray, List.append_toArray, List.nil_append, List.cons_append]
  gi_wp2
  apply wpIn_scope_wide
  gi_wp2_with (first
    | (refine ⟨trivial, ?_⟩; gi_at_call 33; refine (callsIn_wide.2 (CU _ (by omega) hm1)).mono ?_; rintro e w' ⟨rfl, nd, rfl⟩))
  have hZ := ((Blk.new w 23 #[.int .i64 0, .int .i64 0]).drewN nd).alloc (.cells #[.int .i64 0, .int .i64 0] 56)
  have hL := Blk.new ((w.alloc (.cells #[.int .i64 0, .int .i64 0] 23)).drewN nd) 56 #[.int .i64 0, .int .i64 0]
  rw [show ((w.alloc (.cells #[.int .i64 0, .int .i64 0] 23)).drewN nd).heap.size = w.heap.size + 1 by simp] at hL
  have hB0 : Below w.heap.size w (((w.alloc (.cells #[.int .i64 0, .int .i64 0] 23)).drewN nd).alloc (.cells #[.int .i64 0, .int .i64 0] 56)) := by
    refine Below.alloc (?_ : Below w.heap.size w ((w.alloc (.cells #[.int .i64 0, .int .i64 0] 23)).drewN nd)) (by simp) _
    exact ⟨rfl, rfl, rfl, by simp, fun k hk => ((Below.refl w.heap.size w).alloc (Nat.le_refl _) (.cells #[.int .i64 0, .int .i64 0] 23)).block k hk⟩
  have hst : St w (w.heap.size + 1) w.heap.size 0 0 _ := ⟨hL, hZ, hB0⟩
  obtain ⟨W0, hW0⟩ : ∃ W0, (((w.alloc (.cells #[.int .i64 0, .int .i64 0] 23)).drewN nd).alloc (.cells #[.int .i64 0, .int .i64 0] 56)) = W0 := ⟨_, rfl⟩
  have hsz : W0.heap.size = w.heap.size + 2 := by rw [← hW0]; simp
  rw [hW0] at hst ⊢
  clear hZ hL hB0 hW0 hm1 CU hm
  apply wpIn_label
  gi_wp2
  have hx0 := idx0 (.string ⟨p.toArray⟩) (.string ⟨q.toArray⟩)
  have hx1 := idx1 (.string ⟨p.toArray⟩) (.string ⟨q.toArray⟩)
  refine wpIn_loop_rounds 3 ?_
  rw [roundsIn_succ]
  gi_wp2_with (first
    | (refine ⟨trivial, ?_⟩; gi_at_call 34; refine (digits_any Fence.wide _ trivial rfl _ _).mono ?_; rintro e w' ⟨rfl, rfl⟩))
  have bI := (Blk.new W0 3 #[.int .i64 0]).alloc (.cells #[.string ⟨p.toArray⟩] 9)
  have bT := Blk.new (W0.alloc (.cells #[.int .i64 0] 3)) 9 #[.string ⟨p.toArray⟩]
  have hst1 := (hst.alloc (.cells #[.int .i64 0] 3)).alloc (.cells #[.string ⟨p.toArray⟩] 9)
  have hs1 : ((W0.alloc (.cells #[.int .i64 0] 3)).alloc (.cells #[.string ⟨p.toArray⟩] 9)).heap.size = w.heap.size + 2 + 1 + 1 := by simp [hsz]
  rw [World.size_alloc, hsz] at bT
  rw [hsz] at bI
  obtain ⟨W7, hW7⟩ : ∃ V, (W0.alloc (.cells #[.int .i64 0] 3)).alloc (.cells #[.string ⟨p.toArray⟩] 9) = V := ⟨_, rfl⟩
  rw [hW7] at bI bT hst1 hs1 ⊢
  have hbnd : w.heap.size + 1 < W7.heap.size := hst1.1.lt
  have hbw : w.heap.size ≤ W7.heap.size := hst1.2.2.size
  clear hW7
  refine' wpIn_rangeFunc_ownG (F := Fence.wide) (n := 8) rfl (by decide) (gf := 37) (lb := #[.pointer (some ⟨w.heap.size + 2 + 1, 0, none⟩)]) rfl trivial (enters_of Tryd.func37 (by kernel_rfl) rfl)
    (digits_stops Fence.wide 7 trivial rfl (by decide) (w.heap.size + 2 + 1) (w.heap.size + 1) ⟨p.toArray⟩ (by simpa [ByteArray.size] using hpl) W7 (by simpa using bT.cell 0) bT.lt hbnd) (fun h k => h.trans k) (fun W l o o' hl h hc hw => Cls.putObj (B := 0) W l o o' (Nat.zero_le _) h hc hw) (Below.refl _ _) (fun _ => rfl)
    (fun pre W => (∃ v, eat 0 pre = (v, false) ∧ St w (w.heap.size + 1) w.heap.size v 0 W) ∧ Blk W (w.heap.size + 2) 3 #[.int .i64 0])
    (fun c pre W => c = .exit 0 ∧ (∃ v, eat 0 pre = (v, true) ∧ St w (w.heap.size + 1) w.heap.size v 0 W))
    (fun s A B row hs hg hr => by obtain ⟨⟨v, hv, hs⟩, hb⟩ := hs; exact ⟨⟨v, hv, hs.turn hbw hg hr⟩, blk_turn hb hg (fun r e => (hr r e).2)⟩)
    (fun c s A B row hs hg hr => by obtain ⟨hc, v, hv, hs⟩ := hs; exact ⟨hc, v, hv, hs.turn hbw hg hr⟩)
    ⟨⟨0, rfl, hst1⟩, bI⟩ _ ?assign ?body ?done ?stop
  case assign =>
    intro l x W K hK
    gi_wp2
    exact hK
  case body =>
    rintro l pre x W ⟨⟨v, hv, hs⟩, hb⟩ _
    try dsimp only
    obtain ⟨c0, c1, f0, f1⟩ := hs.cells
    have ci : W.cell? ⟨w.heap.size + 2, 0, none⟩ = some (.int .i64 0) := by simpa using hb.cell 0
    have hx := x.2
    have hvr := eat_range _ _ _ _ (by decide) (by decide) hv
    have e1 := eat_snoc _ _ _ x hv
    by_cases hbig : 2147483647 < v
    · have gb : decide (2147483647 < v) = true := by simp [hbig]
      gi_wp2
      exact ⟨KeepsFrom.refl _ _, rfl, ⟨v, by rw [e1, if_pos hbig], hs⟩⟩
    · have e2 : eat 0 (pre ++ [x]) = (10 * v + x.1, false) := by rw [e1, if_neg hbig]
      have gb : decide (2147483647 < v) = false := by simp; omega
      have w1 : IntKind.i64.wrap (10 * v) = 10 * v := IntWalk.i64_in _ (by omega)
      have w2 : IntKind.i64.wrap (10 * v + x.1) = 10 * v + x.1 := IntWalk.i64_in _ (by omega)
      gi_wp2
      gi_region
      all_goals gi_wp2
      all_goals exact ⟨kf_set _ _ _ _, cls_set _ _ _ _ rfl, ⟨10 * v + x.1, e2, hs.set0 _ (by omega) (by omega)⟩, (hb.far (by dsimp only; omega) _).drew⟩
  case done =>
    rintro D1 ys V1 hDa rfl ⟨⟨a0, ha0, hst⟩, hb1⟩ hK1
    clear bI bT hst1 hs1 hbnd hb1
    gi_wp2
    rw [roundsIn_succ]
    gi_wp2_with (first
    | (refine ⟨trivial, ?_⟩; gi_at_call 34; refine (digits_any Fence.wide _ trivial rfl _ _).mono ?_; rintro e w' ⟨rfl, rfl⟩))
    have bI := (Blk.new V1 3 #[.int .i64 1]).alloc (.cells #[.string ⟨q.toArray⟩] 9)
    have bT := Blk.new (V1.alloc (.cells #[.int .i64 1] 3)) 9 #[.string ⟨q.toArray⟩]
    have hst1 := (hst.alloc (.cells #[.int .i64 1] 3)).alloc (.cells #[.string ⟨q.toArray⟩] 9)
    have hs1 : ((V1.alloc (.cells #[.int .i64 1] 3)).alloc (.cells #[.string ⟨q.toArray⟩] 9)).heap.size = V1.heap.size + 1 + 1 := by simp
    rw [World.size_alloc] at bT
    have hV1 : w.heap.size + 1 < V1.heap.size := hst.1.lt
    have hD1 := (heap_keep_alloc (.cells #[.int .i64 1] 3) hK1)
    replace hD1 := heap_keep_alloc (.cells #[.string ⟨q.toArray⟩] 9) hD1
    have hD1lt : D1 < V1.heap.size := (Array.getElem?_eq_some_iff.1 hK1).1
    obtain ⟨W8, hW8⟩ : ∃ V, (V1.alloc (.cells #[.int .i64 1] 3)).alloc (.cells #[.string ⟨q.toArray⟩] 9) = V := ⟨_, rfl⟩
    rw [hW8] at bI bT hst1 hs1 hD1 ⊢
    have hbnd : w.heap.size + 1 < W8.heap.size := hst1.1.lt
    have hbw : w.heap.size ≤ W8.heap.size := hst1.2.2.size
    clear hW8
    refine' wpIn_rangeFunc_ownG (F := Fence.wide) (n := 8) rfl (by decide) (gf := 37) (lb := #[.pointer (some ⟨V1.heap.size + 1, 0, none⟩)]) rfl trivial (enters_of Tryd.func37 (by kernel_rfl) rfl)
      (digits_stops Fence.wide 7 trivial rfl (by decide) (V1.heap.size + 1) (w.heap.size + 1) ⟨q.toArray⟩ (by simpa [ByteArray.size] using hql) W8 (by simpa using bT.cell 0) bT.lt hbnd) (fun h k => h.trans k) (fun W l o o' hl h hc hw => Cls.putObj (B := 0) W l o o' (Nat.zero_le _) h hc hw) (Below.refl _ _) (fun _ => rfl)
      (fun pre W => (∃ v, eat 0 pre = (v, false) ∧ St w (w.heap.size + 1) w.heap.size a0 v W) ∧ Blk W (V1.heap.size) 3 #[.int .i64 1] ∧ W.heap[D1]? = some (.deferred (some [])))
      (fun c pre W => c = .exit 0 ∧ (∃ v, eat 0 pre = (v, true) ∧ St w (w.heap.size + 1) w.heap.size a0 v W) ∧ W.heap[D1]? = some (.deferred (some [])))
      (fun s A B row hs hg hr => by obtain ⟨⟨v, hv, hs⟩, hb, hd⟩ := hs; exact ⟨⟨v, hv, hs.turn hbw hg hr⟩, blk_turn hb hg (fun r e => (hr r e).2), defer_turn hd (by omega) hg hr⟩)
      (fun c s A B row hs hg hr => by obtain ⟨hc, ⟨v, hv, hs⟩, hd⟩ := hs; exact ⟨hc, ⟨v, hv, hs.turn hbw hg hr⟩, defer_turn hd (by omega) hg hr⟩)
      ⟨⟨0, rfl, hst1⟩, bI, hD1⟩ _ ?assign2 ?body2 ?done2 ?stop2
    case assign2 =>
      intro l x W K hK
      gi_wp2
      exact hK
    case body2 =>
      rintro l pre x W ⟨⟨v, hv, hs⟩, hb, hd⟩ _
      try dsimp only
      obtain ⟨c0, c1, f0, f1⟩ := hs.cells
      have ci : W.cell? ⟨V1.heap.size, 0, none⟩ = some (.int .i64 1) := by simpa using hb.cell 0
      have hx := x.2
      have hvr := eat_range _ _ _ _ (by decide) (by decide) hv
      have e1 := eat_snoc _ _ _ x hv
      by_cases hbig : 2147483647 < v
      · have gb : decide (2147483647 < v) = true := by simp [hbig]
        gi_wp2
        exact ⟨KeepsFrom.refl _ _, rfl, ⟨v, by rw [e1, if_pos hbig], hs⟩, hd⟩
      · have e2 : eat 0 (pre ++ [x]) = (10 * v + x.1, false) := by rw [e1, if_neg hbig]
        have gb : decide (2147483647 < v) = false := by simp; omega
        have w1 : IntKind.i64.wrap (10 * v) = 10 * v := IntWalk.i64_in _ (by omega)
        have w2 : IntKind.i64.wrap (10 * v + x.1) = 10 * v + x.1 := IntWalk.i64_in _ (by omega)
        gi_wp2
        gi_region
        all_goals gi_wp2
        all_goals exact ⟨kf_set _ _ _ _, cls_set _ _ _ _ rfl, ⟨10 * v + x.1, e2, hs.set1 _ (by omega) (by omega)⟩, (hb.far (by dsimp only; omega) _).drew, defer_set hd⟩
    case done2 =>
      rintro D2 ys V2 hDb rfl ⟨⟨b0, hb0, hst⟩, hb2, hK1⟩ hK2
      have hab : eats p q = (a0, b0) := by unfold eats; simp only [show digs p = digs (ByteArray.mk p.toArray).data.toList from rfl, ha0, show digs q = digs (ByteArray.mk q.toArray).data.toList from rfl, hb0]
      gi_wp2
      rw [roundsIn_succ]
      obtain ⟨c0, c1, f0, f1⟩ := hst.cells
      have hE : Env (V2.alloc (.cells #[.int .i64 a0, .int .i64 b0] 23)) := henv.below (hst.2.2.alloc hst.2.2.size _)
      have nS := Blk.new V2 23 #[.int .i64 a0, .int .i64 b0]
      have nZ := hst.2.1.alloc (.cells #[.int .i64 a0, .int .i64 b0] 23)
      have nB := hst.2.2.alloc hst.2.2.size (.cells #[.int .i64 a0, .int .i64 b0] 23)
      have hVs := hst.2.2.size
      have hVl := hst.1.lt
      have nD2 := heap_keep_alloc (.cells #[.int .i64 a0, .int .i64 b0] 23) hK2
      have nD1 := heap_keep_alloc (.cells #[.int .i64 a0, .int .i64 b0] 23) hK1
      have CT := fun U h => text_any a0 b0 U h
      by_cases hm1 : mayN a0 b0 = true
      · by_cases htx : textN a0 b0 = t.data.toList
        · have gt : (textN a0 b0 == t.toList) = true := by rw [ByteArray.toList_eq]; simp [htx]
          have TX : Hid (∀ U, Env U → Calls Tryd.prog 27 #[.agg #[.int .i64 a0, .int .i64 b0]] U fun e w' => e = .returned (.tuple #[.string ⟨(textN a0 b0).toArray⟩, .int .i64 0]) ∧ Only [] U w') := hide (fun U h => (CT U h).mono fun e w' ⟨he, ho⟩ => ⟨by unfold textR at he; rw [if_pos hm1] at he; exact he, ho⟩)
          clear CT
          gi_wp2_with (first
          | (refine ⟨trivial, ?_⟩; gi_at_call 27; refine (callsIn_wide.2 (TX.out _ hE)).mono ?_; rintro e w' ⟨rfl, o⟩; obtain ⟨s0, s1, _, _, _⟩ := cell_of_only nS o; obtain ⟨z0, z1, g0, g1, _⟩ := cell_of_only nZ o; have oB := nB.trans (below_of_only o (by simp; omega)); have mD2 := (o.block D2 (Array.getElem?_eq_some_iff.1 nD2).1 (by simp)).trans nD2; have mD1 := (o.block D1 (Array.getElem?_eq_some_iff.1 nD1).1 (by simp)).trans nD1; clear o))
          have qD2 : ((w'.setCell ⟨w.heap.size, 0, none⟩ (.int .i64 (a0))).setCell ⟨w.heap.size, 1, none⟩ (.int .i64 (b0))).heap[D2]? = some (.deferred (some [])) := defer_set (defer_set mD2)
          have qD1 : ((w'.setCell ⟨w.heap.size, 0, none⟩ (.int .i64 (a0))).setCell ⟨w.heap.size, 1, none⟩ (.int .i64 (b0))).heap[D1]? = some (.deferred (some [])) := defer_set (defer_set mD1)
          have y0 : ((w'.setCell ⟨w.heap.size, 0, none⟩ (.int .i64 (a0))).setCell ⟨w.heap.size, 1, none⟩ (.int .i64 (b0))).cell? ⟨w.heap.size, 0, none⟩ = some (.int .i64 (a0)) := two0 z0
          have y1 : ((w'.setCell ⟨w.heap.size, 0, none⟩ (.int .i64 (a0))).setCell ⟨w.heap.size, 1, none⟩ (.int .i64 (b0))).cell? ⟨w.heap.size, 1, none⟩ = some (.int .i64 (b0)) := two1 z1
          have yB : Below w.heap.size w ((w'.setCell ⟨w.heap.size, 0, none⟩ (.int .i64 (a0))).setCell ⟨w.heap.size, 1, none⟩ (.int .i64 (b0))) := (oB.setCell (p := ⟨w.heap.size, 0, none⟩) (Nat.le_refl _) _).setCell (p := ⟨w.heap.size, 1, none⟩) (Nat.le_refl _) _
          generalize ((w'.setCell ⟨w.heap.size, 0, none⟩ (.int .i64 (a0))).setCell ⟨w.heap.size, 1, none⟩ (.int .i64 (b0))) = U at *
          refine ⟨by simp, .inl ⟨_, _, rfl, run_takeDeferred qD2, ?_⟩⟩
          replace y0 := cell_kept y0 (grownBy_putObj' _ D2 (.deferred none)) (fun r e => by cases e; exact ⟨_, qD2, rfl⟩)
          replace y1 := cell_kept y1 (grownBy_putObj' _ D2 (.deferred none)) (fun r e => by cases e; exact ⟨_, qD2, rfl⟩)
          replace yB := yB.trans (belowK_b (w := w) (Nat.le_refl _) U D2 _ (.deferred none) (by omega) qD2 rfl rfl)
          replace qD1 : (U.putObj D2 (.deferred none)).heap[D1]? = some (.deferred (some [])) := (World.putObj_heap_other (by omega)).trans qD1
          generalize U.putObj D2 (.deferred none) = U2 at *
          refine ⟨by simp, .inl ⟨_, _, rfl, run_takeDeferred qD1, ?_⟩⟩
          replace y0 := cell_kept y0 (grownBy_putObj' _ D1 (.deferred none)) (fun r e => by cases e; exact ⟨_, qD1, rfl⟩)
          replace y1 := cell_kept y1 (grownBy_putObj' _ D1 (.deferred none)) (fun r e => by cases e; exact ⟨_, qD1, rfl⟩)
          replace yB := yB.trans (belowK_b (w := w) (Nat.le_refl _) U2 D1 _ (.deferred none) (by omega) qD1 rfl rfl)
          refine ⟨.tuple #[.agg #[.int .i64 (a0), .int .i64 (b0)], .int .i64 0], by simp [results, Tryd.results25, Tryd.f25, go_sem, y0, y1], ?_, only_of_below yB⟩
          rw [hab]; unfold finN; rw [if_pos ⟨hm1, htx⟩]; rfl
        · have HN : ¬ (mayN a0 b0 = true ∧ textN a0 b0 = t.data.toList) := fun h => htx h.2
          have gt : (textN a0 b0 == t.toList) = false := by rw [ByteArray.toList_eq]; simp [htx]
          have TX : Hid (∀ U, Env U → Calls Tryd.prog 27 #[.agg #[.int .i64 a0, .int .i64 b0]] U fun e w' => e = .returned (.tuple #[.string ⟨(textN a0 b0).toArray⟩, .int .i64 0]) ∧ Only [] U w') := hide (fun U h => (CT U h).mono fun e w' ⟨he, ho⟩ => ⟨by unfold textR at he; rw [if_pos hm1] at he; exact he, ho⟩)
          clear CT
          gi_wp2_with (first
          | (refine ⟨trivial, ?_⟩; gi_at_call 27; refine (callsIn_wide.2 (TX.out _ hE)).mono ?_; rintro e w' ⟨rfl, o⟩; obtain ⟨s0, s1, _, _, _⟩ := cell_of_only nS o; obtain ⟨z0, z1, g0, g1, _⟩ := cell_of_only nZ o; have oB := nB.trans (below_of_only o (by simp; omega)); have mD2 := (o.block D2 (Array.getElem?_eq_some_iff.1 nD2).1 (by simp)).trans nD2; have mD1 := (o.block D1 (Array.getElem?_eq_some_iff.1 nD1).1 (by simp)).trans nD1; clear o))
          have qD2 : ((w'.setCell ⟨w.heap.size, 0, none⟩ (.int .i64 (0))).setCell ⟨w.heap.size, 1, none⟩ (.int .i64 (0))).heap[D2]? = some (.deferred (some [])) := defer_set (defer_set mD2)
          have qD1 : ((w'.setCell ⟨w.heap.size, 0, none⟩ (.int .i64 (0))).setCell ⟨w.heap.size, 1, none⟩ (.int .i64 (0))).heap[D1]? = some (.deferred (some [])) := defer_set (defer_set mD1)
          have y0 : ((w'.setCell ⟨w.heap.size, 0, none⟩ (.int .i64 (0))).setCell ⟨w.heap.size, 1, none⟩ (.int .i64 (0))).cell? ⟨w.heap.size, 0, none⟩ = some (.int .i64 (0)) := two0 z0
          have y1 : ((w'.setCell ⟨w.heap.size, 0, none⟩ (.int .i64 (0))).setCell ⟨w.heap.size, 1, none⟩ (.int .i64 (0))).cell? ⟨w.heap.size, 1, none⟩ = some (.int .i64 (0)) := two1 z1
          have yB : Below w.heap.size w ((w'.setCell ⟨w.heap.size, 0, none⟩ (.int .i64 (0))).setCell ⟨w.heap.size, 1, none⟩ (.int .i64 (0))) := (oB.setCell (p := ⟨w.heap.size, 0, none⟩) (Nat.le_refl _) _).setCell (p := ⟨w.heap.size, 1, none⟩) (Nat.le_refl _) _
          generalize ((w'.setCell ⟨w.heap.size, 0, none⟩ (.int .i64 (0))).setCell ⟨w.heap.size, 1, none⟩ (.int .i64 (0))) = U at *
          refine ⟨by simp, .inl ⟨_, _, rfl, run_takeDeferred qD2, ?_⟩⟩
          replace y0 := cell_kept y0 (grownBy_putObj' _ D2 (.deferred none)) (fun r e => by cases e; exact ⟨_, qD2, rfl⟩)
          replace y1 := cell_kept y1 (grownBy_putObj' _ D2 (.deferred none)) (fun r e => by cases e; exact ⟨_, qD2, rfl⟩)
          replace yB := yB.trans (belowK_b (w := w) (Nat.le_refl _) U D2 _ (.deferred none) (by omega) qD2 rfl rfl)
          replace qD1 : (U.putObj D2 (.deferred none)).heap[D1]? = some (.deferred (some [])) := (World.putObj_heap_other (by omega)).trans qD1
          generalize U.putObj D2 (.deferred none) = U2 at *
          refine ⟨by simp, .inl ⟨_, _, rfl, run_takeDeferred qD1, ?_⟩⟩
          replace y0 := cell_kept y0 (grownBy_putObj' _ D1 (.deferred none)) (fun r e => by cases e; exact ⟨_, qD1, rfl⟩)
          replace y1 := cell_kept y1 (grownBy_putObj' _ D1 (.deferred none)) (fun r e => by cases e; exact ⟨_, qD1, rfl⟩)
          replace yB := yB.trans (belowK_b (w := w) (Nat.le_refl _) U2 D1 _ (.deferred none) (by omega) qD1 rfl rfl)
          refine ⟨.tuple #[.agg #[.int .i64 (0), .int .i64 (0)], .int .i64 4], by simp [results, Tryd.results25, Tryd.f25, go_sem, y0, y1], ?_, only_of_below yB⟩
          rw [hab]; unfold finN; rw [if_neg HN]; rfl
      · have HN : ¬ (mayN a0 b0 = true ∧ textN a0 b0 = t.data.toList) := fun h => hm1 h.1
        have TX : Hid (∀ U, Env U → Calls Tryd.prog 27 #[.agg #[.int .i64 a0, .int .i64 b0]] U fun e w' => e = .returned (.tuple #[.string ⟨#[]⟩, .int .i64 2]) ∧ Only [] U w') := hide (fun U h => (CT U h).mono fun e w' ⟨he, ho⟩ => ⟨by unfold textR at he; rw [if_neg hm1] at he; exact he, ho⟩)
        clear CT
        gi_wp2_with (first
          | (refine ⟨trivial, ?_⟩; gi_at_call 27; refine (callsIn_wide.2 (TX.out _ hE)).mono ?_; rintro e w' ⟨rfl, o⟩; obtain ⟨s0, s1, _, _, _⟩ := cell_of_only nS o; obtain ⟨z0, z1, g0, g1, _⟩ := cell_of_only nZ o; have oB := nB.trans (below_of_only o (by simp; omega)); have mD2 := (o.block D2 (Array.getElem?_eq_some_iff.1 nD2).1 (by simp)).trans nD2; have mD1 := (o.block D1 (Array.getElem?_eq_some_iff.1 nD1).1 (by simp)).trans nD1; clear o))
        have qD2 : ((w'.setCell ⟨w.heap.size, 0, none⟩ (.int .i64 (0))).setCell ⟨w.heap.size, 1, none⟩ (.int .i64 (0))).heap[D2]? = some (.deferred (some [])) := defer_set (defer_set mD2)
        have qD1 : ((w'.setCell ⟨w.heap.size, 0, none⟩ (.int .i64 (0))).setCell ⟨w.heap.size, 1, none⟩ (.int .i64 (0))).heap[D1]? = some (.deferred (some [])) := defer_set (defer_set mD1)
        have y0 : ((w'.setCell ⟨w.heap.size, 0, none⟩ (.int .i64 (0))).setCell ⟨w.heap.size, 1, none⟩ (.int .i64 (0))).cell? ⟨w.heap.size, 0, none⟩ = some (.int .i64 (0)) := two0 z0
        have y1 : ((w'.setCell ⟨w.heap.size, 0, none⟩ (.int .i64 (0))).setCell ⟨w.heap.size, 1, none⟩ (.int .i64 (0))).cell? ⟨w.heap.size, 1, none⟩ = some (.int .i64 (0)) := two1 z1
        have yB : Below w.heap.size w ((w'.setCell ⟨w.heap.size, 0, none⟩ (.int .i64 (0))).setCell ⟨w.heap.size, 1, none⟩ (.int .i64 (0))) := (oB.setCell (p := ⟨w.heap.size, 0, none⟩) (Nat.le_refl _) _).setCell (p := ⟨w.heap.size, 1, none⟩) (Nat.le_refl _) _
        generalize ((w'.setCell ⟨w.heap.size, 0, none⟩ (.int .i64 (0))).setCell ⟨w.heap.size, 1, none⟩ (.int .i64 (0))) = U at *
        refine ⟨by simp, .inl ⟨_, _, rfl, run_takeDeferred qD2, ?_⟩⟩
        replace y0 := cell_kept y0 (grownBy_putObj' _ D2 (.deferred none)) (fun r e => by cases e; exact ⟨_, qD2, rfl⟩)
        replace y1 := cell_kept y1 (grownBy_putObj' _ D2 (.deferred none)) (fun r e => by cases e; exact ⟨_, qD2, rfl⟩)
        replace yB := yB.trans (belowK_b (w := w) (Nat.le_refl _) U D2 _ (.deferred none) (by omega) qD2 rfl rfl)
        replace qD1 : (U.putObj D2 (.deferred none)).heap[D1]? = some (.deferred (some [])) := (World.putObj_heap_other (by omega)).trans qD1
        generalize U.putObj D2 (.deferred none) = U2 at *
        refine ⟨by simp, .inl ⟨_, _, rfl, run_takeDeferred qD1, ?_⟩⟩
        replace y0 := cell_kept y0 (grownBy_putObj' _ D1 (.deferred none)) (fun r e => by cases e; exact ⟨_, qD1, rfl⟩)
        replace y1 := cell_kept y1 (grownBy_putObj' _ D1 (.deferred none)) (fun r e => by cases e; exact ⟨_, qD1, rfl⟩)
        replace yB := yB.trans (belowK_b (w := w) (Nat.le_refl _) U2 D1 _ (.deferred none) (by omega) qD1 rfl rfl)
        refine ⟨.tuple #[.agg #[.int .i64 (0), .int .i64 (0)], .int .i64 4], by simp [results, Tryd.results25, Tryd.f25, go_sem, y0, y1], ?_, only_of_below yB⟩
        rw [hab]; unfold finN; rw [if_neg HN]; rfl
  
    case stop2 =>
      rintro D2 c pre V2 hDb hpre ⟨rfl, ⟨b0, hb0, hst⟩, hK1⟩ hK2
      have hab : eats p q = (a0, b0) := by obtain ⟨z, hz⟩ := hpre; unfold eats; simp only [show digs p = digs (ByteArray.mk p.toArray).data.toList from rfl, ha0, show digs q = digs (ByteArray.mk q.toArray).data.toList from rfl]; rw [← hz, eat_more _ _ _ _ hb0]
      obtain ⟨c0, c1, f0, f1⟩ := hst.cells
      have hE : Env (V2.alloc (.cells #[.int .i64 a0, .int .i64 b0] 23)) := henv.below (hst.2.2.alloc hst.2.2.size _)
      have nS := Blk.new V2 23 #[.int .i64 a0, .int .i64 b0]
      have nZ := hst.2.1.alloc (.cells #[.int .i64 a0, .int .i64 b0] 23)
      have nB := hst.2.2.alloc hst.2.2.size (.cells #[.int .i64 a0, .int .i64 b0] 23)
      have hVs := hst.2.2.size
      have hVl := hst.1.lt
      have nD2 := heap_keep_alloc (.cells #[.int .i64 a0, .int .i64 b0] 23) hK2
      have nD1 := heap_keep_alloc (.cells #[.int .i64 a0, .int .i64 b0] 23) hK1
      have CT := fun U h => text_any a0 b0 U h
      by_cases hm1 : mayN a0 b0 = true
      · by_cases htx : textN a0 b0 = t.data.toList
        · have gt : (textN a0 b0 == t.toList) = true := by rw [ByteArray.toList_eq]; simp [htx]
          have TX : Hid (∀ U, Env U → Calls Tryd.prog 27 #[.agg #[.int .i64 a0, .int .i64 b0]] U fun e w' => e = .returned (.tuple #[.string ⟨(textN a0 b0).toArray⟩, .int .i64 0]) ∧ Only [] U w') := hide (fun U h => (CT U h).mono fun e w' ⟨he, ho⟩ => ⟨by unfold textR at he; rw [if_pos hm1] at he; exact he, ho⟩)
          clear CT
          gi_wp2_with (first
          | (refine ⟨trivial, ?_⟩; gi_at_call 27; refine (callsIn_wide.2 (TX.out _ hE)).mono ?_; rintro e w' ⟨rfl, o⟩; obtain ⟨s0, s1, _, _, _⟩ := cell_of_only nS o; obtain ⟨z0, z1, g0, g1, _⟩ := cell_of_only nZ o; have oB := nB.trans (below_of_only o (by simp; omega)); have mD2 := (o.block D2 (Array.getElem?_eq_some_iff.1 nD2).1 (by simp)).trans nD2; have mD1 := (o.block D1 (Array.getElem?_eq_some_iff.1 nD1).1 (by simp)).trans nD1; clear o))
          have qD2 : ((w'.setCell ⟨w.heap.size, 0, none⟩ (.int .i64 (a0))).setCell ⟨w.heap.size, 1, none⟩ (.int .i64 (b0))).heap[D2]? = some (.deferred (some [])) := defer_set (defer_set mD2)
          have qD1 : ((w'.setCell ⟨w.heap.size, 0, none⟩ (.int .i64 (a0))).setCell ⟨w.heap.size, 1, none⟩ (.int .i64 (b0))).heap[D1]? = some (.deferred (some [])) := defer_set (defer_set mD1)
          have y0 : ((w'.setCell ⟨w.heap.size, 0, none⟩ (.int .i64 (a0))).setCell ⟨w.heap.size, 1, none⟩ (.int .i64 (b0))).cell? ⟨w.heap.size, 0, none⟩ = some (.int .i64 (a0)) := two0 z0
          have y1 : ((w'.setCell ⟨w.heap.size, 0, none⟩ (.int .i64 (a0))).setCell ⟨w.heap.size, 1, none⟩ (.int .i64 (b0))).cell? ⟨w.heap.size, 1, none⟩ = some (.int .i64 (b0)) := two1 z1
          have yB : Below w.heap.size w ((w'.setCell ⟨w.heap.size, 0, none⟩ (.int .i64 (a0))).setCell ⟨w.heap.size, 1, none⟩ (.int .i64 (b0))) := (oB.setCell (p := ⟨w.heap.size, 0, none⟩) (Nat.le_refl _) _).setCell (p := ⟨w.heap.size, 1, none⟩) (Nat.le_refl _) _
          generalize ((w'.setCell ⟨w.heap.size, 0, none⟩ (.int .i64 (a0))).setCell ⟨w.heap.size, 1, none⟩ (.int .i64 (b0))) = U at *
          refine ⟨by simp, .inl ⟨_, _, rfl, run_takeDeferred qD2, ?_⟩⟩
          replace y0 := cell_kept y0 (grownBy_putObj' _ D2 (.deferred none)) (fun r e => by cases e; exact ⟨_, qD2, rfl⟩)
          replace y1 := cell_kept y1 (grownBy_putObj' _ D2 (.deferred none)) (fun r e => by cases e; exact ⟨_, qD2, rfl⟩)
          replace yB := yB.trans (belowK_b (w := w) (Nat.le_refl _) U D2 _ (.deferred none) (by omega) qD2 rfl rfl)
          replace qD1 : (U.putObj D2 (.deferred none)).heap[D1]? = some (.deferred (some [])) := (World.putObj_heap_other (by omega)).trans qD1
          generalize U.putObj D2 (.deferred none) = U2 at *
          refine ⟨by simp, .inl ⟨_, _, rfl, run_takeDeferred qD1, ?_⟩⟩
          replace y0 := cell_kept y0 (grownBy_putObj' _ D1 (.deferred none)) (fun r e => by cases e; exact ⟨_, qD1, rfl⟩)
          replace y1 := cell_kept y1 (grownBy_putObj' _ D1 (.deferred none)) (fun r e => by cases e; exact ⟨_, qD1, rfl⟩)
          replace yB := yB.trans (belowK_b (w := w) (Nat.le_refl _) U2 D1 _ (.deferred none) (by omega) qD1 rfl rfl)
          refine ⟨.tuple #[.agg #[.int .i64 (a0), .int .i64 (b0)], .int .i64 0], by simp [results, Tryd.results25, Tryd.f25, go_sem, y0, y1], ?_, only_of_below yB⟩
          rw [hab]; unfold finN; rw [if_pos ⟨hm1, htx⟩]; rfl
        · have HN : ¬ (mayN a0 b0 = true ∧ textN a0 b0 = t.data.toList) := fun h => htx h.2
          have gt : (textN a0 b0 == t.toList) = false := by rw [ByteArray.toList_eq]; simp [htx]
          have TX : Hid (∀ U, Env U → Calls Tryd.prog 27 #[.agg #[.int .i64 a0, .int .i64 b0]] U fun e w' => e = .returned (.tuple #[.string ⟨(textN a0 b0).toArray⟩, .int .i64 0]) ∧ Only [] U w') := hide (fun U h => (CT U h).mono fun e w' ⟨he, ho⟩ => ⟨by unfold textR at he; rw [if_pos hm1] at he; exact he, ho⟩)
          clear CT
          gi_wp2_with (first
          | (refine ⟨trivial, ?_⟩; gi_at_call 27; refine (callsIn_wide.2 (TX.out _ hE)).mono ?_; rintro e w' ⟨rfl, o⟩; obtain ⟨s0, s1, _, _, _⟩ := cell_of_only nS o; obtain ⟨z0, z1, g0, g1, _⟩ := cell_of_only nZ o; have oB := nB.trans (below_of_only o (by simp; omega)); have mD2 := (o.block D2 (Array.getElem?_eq_some_iff.1 nD2).1 (by simp)).trans nD2; have mD1 := (o.block D1 (Array.getElem?_eq_some_iff.1 nD1).1 (by simp)).trans nD1; clear o))
          have qD2 : ((w'.setCell ⟨w.heap.size, 0, none⟩ (.int .i64 (0))).setCell ⟨w.heap.size, 1, none⟩ (.int .i64 (0))).heap[D2]? = some (.deferred (some [])) := defer_set (defer_set mD2)
          have qD1 : ((w'.setCell ⟨w.heap.size, 0, none⟩ (.int .i64 (0))).setCell ⟨w.heap.size, 1, none⟩ (.int .i64 (0))).heap[D1]? = some (.deferred (some [])) := defer_set (defer_set mD1)
          have y0 : ((w'.setCell ⟨w.heap.size, 0, none⟩ (.int .i64 (0))).setCell ⟨w.heap.size, 1, none⟩ (.int .i64 (0))).cell? ⟨w.heap.size, 0, none⟩ = some (.int .i64 (0)) := two0 z0
          have y1 : ((w'.setCell ⟨w.heap.size, 0, none⟩ (.int .i64 (0))).setCell ⟨w.heap.size, 1, none⟩ (.int .i64 (0))).cell? ⟨w.heap.size, 1, none⟩ = some (.int .i64 (0)) := two1 z1
          have yB : Below w.heap.size w ((w'.setCell ⟨w.heap.size, 0, none⟩ (.int .i64 (0))).setCell ⟨w.heap.size, 1, none⟩ (.int .i64 (0))) := (oB.setCell (p := ⟨w.heap.size, 0, none⟩) (Nat.le_refl _) _).setCell (p := ⟨w.heap.size, 1, none⟩) (Nat.le_refl _) _
          generalize ((w'.setCell ⟨w.heap.size, 0, none⟩ (.int .i64 (0))).setCell ⟨w.heap.size, 1, none⟩ (.int .i64 (0))) = U at *
          refine ⟨by simp, .inl ⟨_, _, rfl, run_takeDeferred qD2, ?_⟩⟩
          replace y0 := cell_kept y0 (grownBy_putObj' _ D2 (.deferred none)) (fun r e => by cases e; exact ⟨_, qD2, rfl⟩)
          replace y1 := cell_kept y1 (grownBy_putObj' _ D2 (.deferred none)) (fun r e => by cases e; exact ⟨_, qD2, rfl⟩)
          replace yB := yB.trans (belowK_b (w := w) (Nat.le_refl _) U D2 _ (.deferred none) (by omega) qD2 rfl rfl)
          replace qD1 : (U.putObj D2 (.deferred none)).heap[D1]? = some (.deferred (some [])) := (World.putObj_heap_other (by omega)).trans qD1
          generalize U.putObj D2 (.deferred none) = U2 at *
          refine ⟨by simp, .inl ⟨_, _, rfl, run_takeDeferred qD1, ?_⟩⟩
          replace y0 := cell_kept y0 (grownBy_putObj' _ D1 (.deferred none)) (fun r e => by cases e; exact ⟨_, qD1, rfl⟩)
          replace y1 := cell_kept y1 (grownBy_putObj' _ D1 (.deferred none)) (fun r e => by cases e; exact ⟨_, qD1, rfl⟩)
          replace yB := yB.trans (belowK_b (w := w) (Nat.le_refl _) U2 D1 _ (.deferred none) (by omega) qD1 rfl rfl)
          refine ⟨.tuple #[.agg #[.int .i64 (0), .int .i64 (0)], .int .i64 4], by simp [results, Tryd.results25, Tryd.f25, go_sem, y0, y1], ?_, only_of_below yB⟩
          rw [hab]; unfold finN; rw [if_neg HN]; rfl
      · have HN : ¬ (mayN a0 b0 = true ∧ textN a0 b0 = t.data.toList) := fun h => hm1 h.1
        have TX : Hid (∀ U, Env U → Calls Tryd.prog 27 #[.agg #[.int .i64 a0, .int .i64 b0]] U fun e w' => e = .returned (.tuple #[.string ⟨#[]⟩, .int .i64 2]) ∧ Only [] U w') := hide (fun U h => (CT U h).mono fun e w' ⟨he, ho⟩ => ⟨by unfold textR at he; rw [if_neg hm1] at he; exact he, ho⟩)
        clear CT
        gi_wp2_with (first
          | (refine ⟨trivial, ?_⟩; gi_at_call 27; refine (callsIn_wide.2 (TX.out _ hE)).mono ?_; rintro e w' ⟨rfl, o⟩; obtain ⟨s0, s1, _, _, _⟩ := cell_of_only nS o; obtain ⟨z0, z1, g0, g1, _⟩ := cell_of_only nZ o; have oB := nB.trans (below_of_only o (by simp; omega)); have mD2 := (o.block D2 (Array.getElem?_eq_some_iff.1 nD2).1 (by simp)).trans nD2; have mD1 := (o.block D1 (Array.getElem?_eq_some_iff.1 nD1).1 (by simp)).trans nD1; clear o))
        have qD2 : ((w'.setCell ⟨w.heap.size, 0, none⟩ (.int .i64 (0))).setCell ⟨w.heap.size, 1, none⟩ (.int .i64 (0))).heap[D2]? = some (.deferred (some [])) := defer_set (defer_set mD2)
        have qD1 : ((w'.setCell ⟨w.heap.size, 0, none⟩ (.int .i64 (0))).setCell ⟨w.heap.size, 1, none⟩ (.int .i64 (0))).heap[D1]? = some (.deferred (some [])) := defer_set (defer_set mD1)
        have y0 : ((w'.setCell ⟨w.heap.size, 0, none⟩ (.int .i64 (0))).setCell ⟨w.heap.size, 1, none⟩ (.int .i64 (0))).cell? ⟨w.heap.size, 0, none⟩ = some (.int .i64 (0)) := two0 z0
        have y1 : ((w'.setCell ⟨w.heap.size, 0, none⟩ (.int .i64 (0))).setCell ⟨w.heap.size, 1, none⟩ (.int .i64 (0))).cell? ⟨w.heap.size, 1, none⟩ = some (.int .i64 (0)) := two1 z1
        have yB : Below w.heap.size w ((w'.setCell ⟨w.heap.size, 0, none⟩ (.int .i64 (0))).setCell ⟨w.heap.size, 1, none⟩ (.int .i64 (0))) := (oB.setCell (p := ⟨w.heap.size, 0, none⟩) (Nat.le_refl _) _).setCell (p := ⟨w.heap.size, 1, none⟩) (Nat.le_refl _) _
        generalize ((w'.setCell ⟨w.heap.size, 0, none⟩ (.int .i64 (0))).setCell ⟨w.heap.size, 1, none⟩ (.int .i64 (0))) = U at *
        refine ⟨by simp, .inl ⟨_, _, rfl, run_takeDeferred qD2, ?_⟩⟩
        replace y0 := cell_kept y0 (grownBy_putObj' _ D2 (.deferred none)) (fun r e => by cases e; exact ⟨_, qD2, rfl⟩)
        replace y1 := cell_kept y1 (grownBy_putObj' _ D2 (.deferred none)) (fun r e => by cases e; exact ⟨_, qD2, rfl⟩)
        replace yB := yB.trans (belowK_b (w := w) (Nat.le_refl _) U D2 _ (.deferred none) (by omega) qD2 rfl rfl)
        replace qD1 : (U.putObj D2 (.deferred none)).heap[D1]? = some (.deferred (some [])) := (World.putObj_heap_other (by omega)).trans qD1
        generalize U.putObj D2 (.deferred none) = U2 at *
        refine ⟨by simp, .inl ⟨_, _, rfl, run_takeDeferred qD1, ?_⟩⟩
        replace y0 := cell_kept y0 (grownBy_putObj' _ D1 (.deferred none)) (fun r e => by cases e; exact ⟨_, qD1, rfl⟩)
        replace y1 := cell_kept y1 (grownBy_putObj' _ D1 (.deferred none)) (fun r e => by cases e; exact ⟨_, qD1, rfl⟩)
        replace yB := yB.trans (belowK_b (w := w) (Nat.le_refl _) U2 D1 _ (.deferred none) (by omega) qD1 rfl rfl)
        refine ⟨.tuple #[.agg #[.int .i64 (0), .int .i64 (0)], .int .i64 4], by simp [results, Tryd.results25, Tryd.f25, go_sem, y0, y1], ?_, only_of_below yB⟩
        rw [hab]; unfold finN; rw [if_neg HN]; rfl
  

  case stop =>
    rintro D1 c pre V1 hDa hpre ⟨rfl, a0, ha0, hst⟩ hK1
    have hab : eats p q = (a0, 0) := by obtain ⟨z, hz⟩ := hpre; unfold eats; rw [show digs p = digs (ByteArray.mk p.toArray).data.toList from rfl, ← hz, eat_more _ _ _ _ ha0]
    obtain ⟨c0, c1, f0, f1⟩ := hst.cells
    have hE : Env (V1.alloc (.cells #[.int .i64 a0, .int .i64 0] 23)) := henv.below (hst.2.2.alloc hst.2.2.size _)
    have nS := Blk.new V1 23 #[.int .i64 a0, .int .i64 0]
    have nZ := hst.2.1.alloc (.cells #[.int .i64 a0, .int .i64 0] 23)
    have nB := hst.2.2.alloc hst.2.2.size (.cells #[.int .i64 a0, .int .i64 0] 23)
    have hVs := hst.2.2.size
    have hVl := hst.1.lt
    have nD1 := heap_keep_alloc (.cells #[.int .i64 a0, .int .i64 0] 23) hK1
    have CT := fun U h => text_any a0 0 U h
    by_cases hm1 : mayN a0 0 = true
    · by_cases htx : textN a0 0 = t.data.toList
      · have gt : (textN a0 0 == t.toList) = true := by rw [ByteArray.toList_eq]; simp [htx]
        have TX : Hid (∀ U, Env U → Calls Tryd.prog 27 #[.agg #[.int .i64 a0, .int .i64 0]] U fun e w' => e = .returned (.tuple #[.string ⟨(textN a0 0).toArray⟩, .int .i64 0]) ∧ Only [] U w') := hide (fun U h => (CT U h).mono fun e w' ⟨he, ho⟩ => ⟨by unfold textR at he; rw [if_pos hm1] at he; exact he, ho⟩)
        clear CT
        gi_wp2_with (first
        | (refine ⟨trivial, ?_⟩; gi_at_call 27; refine (callsIn_wide.2 (TX.out _ hE)).mono ?_; rintro e w' ⟨rfl, o⟩; obtain ⟨s0, s1, _, _, _⟩ := cell_of_only nS o; obtain ⟨z0, z1, g0, g1, _⟩ := cell_of_only nZ o; have oB := nB.trans (below_of_only o (by simp; omega)); have mD1 := (o.block D1 (Array.getElem?_eq_some_iff.1 nD1).1 (by simp)).trans nD1; clear o))
        have qD1 : ((w'.setCell ⟨w.heap.size, 0, none⟩ (.int .i64 (a0))).setCell ⟨w.heap.size, 1, none⟩ (.int .i64 (0))).heap[D1]? = some (.deferred (some [])) := defer_set (defer_set mD1)
        have y0 : ((w'.setCell ⟨w.heap.size, 0, none⟩ (.int .i64 (a0))).setCell ⟨w.heap.size, 1, none⟩ (.int .i64 (0))).cell? ⟨w.heap.size, 0, none⟩ = some (.int .i64 (a0)) := two0 z0
        have y1 : ((w'.setCell ⟨w.heap.size, 0, none⟩ (.int .i64 (a0))).setCell ⟨w.heap.size, 1, none⟩ (.int .i64 (0))).cell? ⟨w.heap.size, 1, none⟩ = some (.int .i64 (0)) := two1 z1
        have yB : Below w.heap.size w ((w'.setCell ⟨w.heap.size, 0, none⟩ (.int .i64 (a0))).setCell ⟨w.heap.size, 1, none⟩ (.int .i64 (0))) := (oB.setCell (p := ⟨w.heap.size, 0, none⟩) (Nat.le_refl _) _).setCell (p := ⟨w.heap.size, 1, none⟩) (Nat.le_refl _) _
        generalize ((w'.setCell ⟨w.heap.size, 0, none⟩ (.int .i64 (a0))).setCell ⟨w.heap.size, 1, none⟩ (.int .i64 (0))) = U at *
        refine ⟨by simp, .inl ⟨_, _, rfl, run_takeDeferred qD1, ?_⟩⟩
        replace y0 := cell_kept y0 (grownBy_putObj' _ D1 (.deferred none)) (fun r e => by cases e; exact ⟨_, qD1, rfl⟩)
        replace y1 := cell_kept y1 (grownBy_putObj' _ D1 (.deferred none)) (fun r e => by cases e; exact ⟨_, qD1, rfl⟩)
        replace yB := yB.trans (belowK_b (w := w) (Nat.le_refl _) U D1 _ (.deferred none) (by omega) qD1 rfl rfl)
        refine ⟨.tuple #[.agg #[.int .i64 (a0), .int .i64 (0)], .int .i64 0], by simp [results, Tryd.results25, Tryd.f25, go_sem, y0, y1], ?_, only_of_below yB⟩
        rw [hab]; unfold finN; rw [if_pos ⟨hm1, htx⟩]; rfl
      · have HN : ¬ (mayN a0 0 = true ∧ textN a0 0 = t.data.toList) := fun h => htx h.2
        have gt : (textN a0 0 == t.toList) = false := by rw [ByteArray.toList_eq]; simp [htx]
        have TX : Hid (∀ U, Env U → Calls Tryd.prog 27 #[.agg #[.int .i64 a0, .int .i64 0]] U fun e w' => e = .returned (.tuple #[.string ⟨(textN a0 0).toArray⟩, .int .i64 0]) ∧ Only [] U w') := hide (fun U h => (CT U h).mono fun e w' ⟨he, ho⟩ => ⟨by unfold textR at he; rw [if_pos hm1] at he; exact he, ho⟩)
        clear CT
        gi_wp2_with (first
        | (refine ⟨trivial, ?_⟩; gi_at_call 27; refine (callsIn_wide.2 (TX.out _ hE)).mono ?_; rintro e w' ⟨rfl, o⟩; obtain ⟨s0, s1, _, _, _⟩ := cell_of_only nS o; obtain ⟨z0, z1, g0, g1, _⟩ := cell_of_only nZ o; have oB := nB.trans (below_of_only o (by simp; omega)); have mD1 := (o.block D1 (Array.getElem?_eq_some_iff.1 nD1).1 (by simp)).trans nD1; clear o))
        have qD1 : ((w'.setCell ⟨w.heap.size, 0, none⟩ (.int .i64 (0))).setCell ⟨w.heap.size, 1, none⟩ (.int .i64 (0))).heap[D1]? = some (.deferred (some [])) := defer_set (defer_set mD1)
        have y0 : ((w'.setCell ⟨w.heap.size, 0, none⟩ (.int .i64 (0))).setCell ⟨w.heap.size, 1, none⟩ (.int .i64 (0))).cell? ⟨w.heap.size, 0, none⟩ = some (.int .i64 (0)) := two0 z0
        have y1 : ((w'.setCell ⟨w.heap.size, 0, none⟩ (.int .i64 (0))).setCell ⟨w.heap.size, 1, none⟩ (.int .i64 (0))).cell? ⟨w.heap.size, 1, none⟩ = some (.int .i64 (0)) := two1 z1
        have yB : Below w.heap.size w ((w'.setCell ⟨w.heap.size, 0, none⟩ (.int .i64 (0))).setCell ⟨w.heap.size, 1, none⟩ (.int .i64 (0))) := (oB.setCell (p := ⟨w.heap.size, 0, none⟩) (Nat.le_refl _) _).setCell (p := ⟨w.heap.size, 1, none⟩) (Nat.le_refl _) _
        generalize ((w'.setCell ⟨w.heap.size, 0, none⟩ (.int .i64 (0))).setCell ⟨w.heap.size, 1, none⟩ (.int .i64 (0))) = U at *
        refine ⟨by simp, .inl ⟨_, _, rfl, run_takeDeferred qD1, ?_⟩⟩
        replace y0 := cell_kept y0 (grownBy_putObj' _ D1 (.deferred none)) (fun r e => by cases e; exact ⟨_, qD1, rfl⟩)
        replace y1 := cell_kept y1 (grownBy_putObj' _ D1 (.deferred none)) (fun r e => by cases e; exact ⟨_, qD1, rfl⟩)
        replace yB := yB.trans (belowK_b (w := w) (Nat.le_refl _) U D1 _ (.deferred none) (by omega) qD1 rfl rfl)
        refine ⟨.tuple #[.agg #[.int .i64 (0), .int .i64 (0)], .int .i64 4], by simp [results, Tryd.results25, Tryd.f25, go_sem, y0, y1], ?_, only_of_below yB⟩
        rw [hab]; unfold finN; rw [if_neg HN]; rfl
    · have HN : ¬ (mayN a0 0 = true ∧ textN a0 0 = t.data.toList) := fun h => hm1 h.1
      have TX : Hid (∀ U, Env U → Calls Tryd.prog 27 #[.agg #[.int .i64 a0, .int .i64 0]] U fun e w' => e = .returned (.tuple #[.string ⟨#[]⟩, .int .i64 2]) ∧ Only [] U w') := hide (fun U h => (CT U h).mono fun e w' ⟨he, ho⟩ => ⟨by unfold textR at he; rw [if_neg hm1] at he; exact he, ho⟩)
      clear CT
      gi_wp2_with (first
        | (refine ⟨trivial, ?_⟩; gi_at_call 27; refine (callsIn_wide.2 (TX.out _ hE)).mono ?_; rintro e w' ⟨rfl, o⟩; obtain ⟨s0, s1, _, _, _⟩ := cell_of_only nS o; obtain ⟨z0, z1, g0, g1, _⟩ := cell_of_only nZ o; have oB := nB.trans (below_of_only o (by simp; omega)); have mD1 := (o.block D1 (Array.getElem?_eq_some_iff.1 nD1).1 (by simp)).trans nD1; clear o))
      have qD1 : ((w'.setCell ⟨w.heap.size, 0, none⟩ (.int .i64 (0))).setCell ⟨w.heap.size, 1, none⟩ (.int .i64 (0))).heap[D1]? = some (.deferred (some [])) := defer_set (defer_set mD1)
      have y0 : ((w'.setCell ⟨w.heap.size, 0, none⟩ (.int .i64 (0))).setCell ⟨w.heap.size, 1, none⟩ (.int .i64 (0))).cell? ⟨w.heap.size, 0, none⟩ = some (.int .i64 (0)) := two0 z0
      have y1 : ((w'.setCell ⟨w.heap.size, 0, none⟩ (.int .i64 (0))).setCell ⟨w.heap.size, 1, none⟩ (.int .i64 (0))).cell? ⟨w.heap.size, 1, none⟩ = some (.int .i64 (0)) := two1 z1
      have yB : Below w.heap.size w ((w'.setCell ⟨w.heap.size, 0, none⟩ (.int .i64 (0))).setCell ⟨w.heap.size, 1, none⟩ (.int .i64 (0))) := (oB.setCell (p := ⟨w.heap.size, 0, none⟩) (Nat.le_refl _) _).setCell (p := ⟨w.heap.size, 1, none⟩) (Nat.le_refl _) _
      generalize ((w'.setCell ⟨w.heap.size, 0, none⟩ (.int .i64 (0))).setCell ⟨w.heap.size, 1, none⟩ (.int .i64 (0))) = U at *
      refine ⟨by simp, .inl ⟨_, _, rfl, run_takeDeferred qD1, ?_⟩⟩
      replace y0 := cell_kept y0 (grownBy_putObj' _ D1 (.deferred none)) (fun r e => by cases e; exact ⟨_, qD1, rfl⟩)
      replace y1 := cell_kept y1 (grownBy_putObj' _ D1 (.deferred none)) (fun r e => by cases e; exact ⟨_, qD1, rfl⟩)
      replace yB := yB.trans (belowK_b (w := w) (Nat.le_refl _) U D1 _ (.deferred none) (by omega) qD1 rfl rfl)
      refine ⟨.tuple #[.agg #[.int .i64 (0), .int .i64 (0)], .int .i64 4], by simp [results, Tryd.results25, Tryd.f25, go_sem, y0, y1], ?_, only_of_below yB⟩
      rw [hab]; unfold finN; rw [if_neg HN]; rfl


end Go.Proofs.YtcocjjapmmpgaaaDoor

