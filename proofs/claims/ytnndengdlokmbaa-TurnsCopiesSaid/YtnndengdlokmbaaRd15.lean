/- Ready lists: the walks of Len and List. Condition: the list lies. -/
import Derived.Test.YtnndengdlokmbaaRd14
import Derived.Scope
import Derived.WalkMore
namespace Go.Proofs.Ytnndengdlokmbaa
open Go.RowKit Go.Shelf
set_option linter.unusedVariables false
set_option linter.all false
set_option maxRecDepth 100000
attribute [local go_sem] Oper.semAt_some

theorem wpIn_scope_wide {n : Nat} {P : Program} {c : Code} {Q : Exit → Act → World → Prop} {a : Act} {w : World} (h : c.wpIn Fence.wide n P (Exit.noGoto Q) a w) : (Code.scope c).wpIn Fence.wide n P Q a w :=
  wpIn_wide.2 (wp_scope_straight (wpIn_wide.1 h))
theorem blk_turn {W W' : World} {row : Option Nat} {g : Nat} {t : TypeId} {cs : Array Value} (h : Blk W g t cs) (hg : W.grownBy W' row) (hr : ∀ r, row = some r → ∃ o : Obj, W.heap[r]? = some o ∧ o.isCells = false) : Blk W' g t cs := by
  refine h.grown hg (fun e => ?_)
  obtain ⟨o, ho, hc⟩ := hr g e.symm
  unfold Blk at h
  rw [h] at ho
  cases ho
  simp [Obj.isCells] at hc
theorem heap_keep_alloc {W : World} {D : Nat} {o : Obj} (o' : Obj) (h : W.heap[D]? = some o) : (W.alloc o').heap[D]? = some o := (Below.heap_alloc W o' D (Array.getElem?_eq_some_iff.1 h).1).trans h
theorem kf_set (B : Nat) (W : World) (p : Addr) (u : Value) : KeepsFrom B W (W.setCell p u) := (KeepsOthers.setCell W p u).from B
theorem kps_set {K : List Nat} (W : World) (p : Addr) (u : Value) (hp : p.block ∉ K) : Kps K W (W.setCell p u) := by
  refine ⟨by simp, fun k cs t q hk hh => ?_⟩
  rw [Below.heap_setCell W p u k (by rintro rfl; exact hp hk)]; exact hh
theorem only_of_below {A B : World} (h : Below A.heap.size A B) : Only [] A B := ⟨h.os, h.tape, h.output, h.size, fun k hk _ => h.block k hk⟩
theorem cell_kept {W W' : World} {row : Option Nat} {p : Addr} {v : Value} (h : W.cell? p = some v) (hg : W.grownBy W' row) (hr : ∀ r, row = some r → ∃ o : Obj, W.heap[r]? = some o ∧ o.isCells = false) : W'.cell? p = some v := by
  have hlt := World.block_lt_of_cell? W p h
  refine (World.cell?_of_block (w := W) (hg.block p.block hlt (fun e => ?_))).trans h
  obtain ⟨o, ho, hc⟩ := hr p.block e.symm
  unfold World.cell? at h
  rw [ho] at h
  cases o <;> simp [Obj.isCells] at hc h

set_option maxHeartbeats 4000000 in
theorem len_any (g : Nat) (q : Nat → List Nat) (st : Int) (hq : (allQ q).length ≤ 1000) (w : World) (h : RL w g q st) : Calls Try.prog 58 #[ptr g] w fun e w' => e = .returned (.int .i64 (allQ q).length) ∧ Only [] w w' := by
  refine (callsIn_wide (n := 8)).1 ?_
  have hglt : g < w.heap.size := by obtain ⟨s, prio, bits, ⟨cs, hB, _⟩, _⟩ := h; exact hB.lt
  have AL := fun W => all_any g W
  unfold ptr at AL ⊢
  refine callsIn_of_wp_marks Try.func58 rfl trivial ?_ rfl
  simp only [Try.ntmps58, List.size_toArray, List.length_cons, List.length_nil, Nat.reduceAdd, Nat.reduceSub, Array.replicate_succ, Array.replicate_zero, List.push_toArray, List.append_toArray, List.nil_append, List.cons_append]
  gi_wp2_with (first
    | (refine ⟨trivial, ?_⟩; gi_at_call 64; refine (callsIn_wide.2 (AL _)).mono ?_; rintro e w' ⟨rfl, rfl⟩)
    | (apply wpIn_scope_wide))
  have bI := (Blk.new w 3 #[.int .i64 0]).alloc (.cells #[ptr g] 55)
  have bT := Blk.new (w.alloc (.cells #[.int .i64 0] 3)) 55 #[ptr g]
  rw [World.size_alloc] at bT
  have oB : Below w.heap.size w ((w.alloc (.cells #[.int .i64 0] 3)).alloc (.cells #[ptr g] 55)) := ((Below.refl w.heap.size w).alloc (Nat.le_refl _) _).alloc (by simp) _
  have hsz : ((w.alloc (.cells #[.int .i64 0] 3)).alloc (.cells #[ptr g] 55)).heap.size = w.heap.size + 2 := by simp
  change Code.wpIn _ _ _ _ _ _ ((w.alloc (.cells #[.int .i64 0] 3)).alloc (.cells #[ptr g] 55))
  obtain ⟨V, hV⟩ : ∃ V, (w.alloc (.cells #[.int .i64 0] 3)).alloc (.cells #[ptr g] 55) = V := ⟨_, rfl⟩
  rw [hV] at bI bT oB hsz ⊢
  clear hV AL
  have hRL : RL V g q st := h.only (only_of_below oB) (by simp)
  refine' wpIn_rangeFunc_ownG (F := Fence.wide) (n := 8) rfl (by decide) (gf := 71) (lb := #[.pointer (some ⟨w.heap.size + 1, 0, none⟩)]) rfl trivial (enters_of Try.func71 (by kernel_rfl) rfl)
    (all_stops 7 g (w.heap.size + 1) (by decide) q st V bT hRL) (fun h k => h.trans k) (fun W l o o' hl h hc hw => Kps.putObj W l o o' h hc) (Below.refl _ _) (fun _ => rfl)
    (fun pre W => Blk W w.heap.size 3 #[.int .i64 pre.length] ∧ Below w.heap.size w W)
    (fun c pre W => False)
    (fun s A B row hs hg hr => ⟨blk_turn hs.1 hg (fun r e => (hr r e).2), hs.2.grown hg hs.2.size (fun k e => by have := (hr k e).1; omega)⟩)
    (fun c s A B row hs hg hr => hs.elim)
    ⟨bI, oB⟩ _ ?assign ?body ?done ?stop
  case assign =>
    intro l x W K hK
    gi_wp2
    exact hK
  case body =>
    rintro l pre x W ⟨hb, ho⟩ hlen
    try dsimp only
    have c0 : W.cell? ⟨w.heap.size, 0, none⟩ = some (.int .i64 pre.length) := by simpa using hb.cell 0
    have f0 := hb.frozen 0
    have w1 : IntKind.i64.wrap ((pre.length : Int) + 1) = (pre.length : Int) + 1 := IntWalk.i64_in _ (by omega)
    gi_wp2
    exact ⟨kf_set _ _ _ _, kps_set _ _ _ (by simp; omega), by simpa using hb.set_ 0 (.int .i64 (pre.length + 1)), ho.setCell (p := ⟨w.heap.size, 0, none⟩) (Nat.le_refl _) _⟩
  case done =>
    rintro D ys V1 hDa rfl ⟨hb, ho⟩ hK1
    have c0 : V1.cell? ⟨w.heap.size, 0, none⟩ = some (.int .i64 (allQ q).length) := by simpa using hb.cell 0
    gi_wp2
    refine ⟨by simp, .inl ⟨_, _, rfl, run_takeDeferred hK1, ?_⟩⟩
    exact ⟨.int .i64 (allQ q).length, by simp [results, Try.results58, Try.f58, go_sem], rfl, only_of_below (ho.trans (belowK_b (w := w) (Nat.le_refl _) V1 D _ (.deferred none) (by omega) hK1 rfl rfl))⟩
  case stop =>
    rintro D c pre V1 hDb hpre hf
    exact hf.elim
end Go.Proofs.Ytnndengdlokmbaa
