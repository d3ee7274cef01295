/- Ready lists: the walk of List. Condition: the list lies. -/
import Derived.Test.YtnndengdlokmbaaRd15
import Derived.Test.YtnndengdlokmbaaMore
namespace Go.Proofs.Ytnndengdlokmbaa
open Go.RowKit Go.Shelf
set_option linter.unusedVariables false
set_option linter.all false
set_option maxRecDepth 100000
attribute [local go_sem] Oper.semAt_some
attribute [local go_sem ↓] app_hide

/-- Threads as cells. -/
def NV (l : List Nat) : List Value := l.map fun t : Nat => .int .i64 (t : Int)
theorem NV_len (l : List Nat) : (NV l).length = l.length := by simp [NV]
theorem NV_get (l : List Nat) (i t : Nat) (h : l[i]? = some t) : (NV l)[i]? = some (.int .i64 (t : Int)) := by simp [NV, h]
theorem int3_info : (Try.prog.info? 3).map (fun i => (i.zero, i.size, i.bytes)) = some (some (.int .i64 0), 1, 8) := by kernel_rfl
/-- One more at the end of a slice of threads. -/
theorem app_one (W : World) (base : Nat) (A : Option Addr) (c : Nat) (l : List Nat) (t : Nat) (h : W.ownsRow base 3 1 (.slice A l.length c) l.length (NV l)) (hl : l.length ≤ 100000) (hb : base ≤ W.heap.size) :
    ∃ g' cap' w2, (AppH #[32, 32] 32 #[.slice A l.length c, .slice (some ⟨W.heap.size, 0, none⟩) 1 1]).run Try.prog (W.alloc (.cells #[.int .i64 (t : Int)] 3)) = .ok (.slice (some ⟨g', 0, none⟩) (l.length + 1) cap') w2 ∧
      w2.ownsRow base 3 1 (.slice (some ⟨g', 0, none⟩) (l ++ [t]).length cap') (l ++ [t]).length (NV (l ++ [t])) ∧ Only (blkOf A) W w2 ∧ (g' ∈ blkOf A ∨ W.heap.size ≤ g') := by
  obtain ⟨i0, hi, hz0, hz1, hz2⟩ := info_parts int3_info
  obtain ⟨g', cap', w2, hrun, hown, ho, hgg⟩ := append_at (P := Try.prog) (W.alloc (.cells #[.int .i64 (t : Int)] 3)) base 32 32 3 i0 (.int .i64 0) 1 8 Try.underlying32 hi hz0 hz1 hz2 rfl (by omega) A l.length c (NV l) (own_only' h ((Only.refl [] W).alloc _) (by simp))
    ⟨W.heap.size, 0, none⟩ 1 1 [.int .i64 (t : Int)] rfl (fun j u hj => by
      have := (Blk.new W 3 #[.int .i64 (t : Int)]).cell j
      rw [add_mk, Nat.zero_add, this, List.getElem?_toArray]
      exact hj) (by simp [Value.oneCell']) (.inl (by omega)) (by unfold maxLen; omega) (by omega) (by simp; omega)
  rw [app_hide] at hrun
  refine ⟨g', cap', w2, hrun, by simpa [NV] using hown, ((Only.refl (blkOf A) W).alloc _).trans' ho, hgg.imp id (fun e => by simp at e; omega)⟩
theorem own_cells {w : World} {base size n c : Nat} {e : TypeId} {A : Option Addr} {xs : List Value} (h : w.ownsRow base e size (.slice A n c) n xs) : ∀ k ∈ blkOf A, ∃ cs t q, w.heap[k]? = some (.cells cs t q) := by
  intro k hk
  rcases A with _ | a
  · simp [blkOf] at hk
  · simp only [blkOf, List.mem_singleton] at hk
    subst hk
    rcases h.2 with ⟨hv, hn⟩ | ⟨g, cap, cur, hv, _, hg, _⟩
    · simp at hv
    · simp only [Value.slice.injEq, Option.some.injEq] at hv
      obtain ⟨rfl, _⟩ := hv
      exact ⟨_, _, _, hg⟩
theorem ko_of_only {S : List Nat} {W W' : World} (h : Only S W W') (hS : ∀ k ∈ S, ∃ cs t q, W.heap[k]? = some (.cells cs t q)) : KeepsOthers W W' :=
  ⟨h.size, fun k o hk hc => (h.block k (Array.getElem?_eq_some_iff.1 hk).1 (fun hm => by
    obtain ⟨cs, t, q, e⟩ := hS k hm
    rw [e] at hk
    cases hk
    simp [Obj.isCells] at hc)).trans hk⟩
theorem own_turn {w w' : World} {row : Option Nat} {base size n c : Nat} {e : TypeId} {A : Option Addr} {xs : List Value} (h : w.ownsRow base e size (.slice A n c) n xs) (hg : w.grownBy w' row) (hr : ∀ r, row = some r → ∃ o : Obj, w.heap[r]? = some o ∧ o.isCells = false) : w'.ownsRow base e size (.slice A n c) n xs := by
  refine ⟨h.1, ?_⟩
  rcases h.2 with h2 | ⟨g, cap, cur, hv, hb, hgg, r⟩
  · exact .inl h2
  · exact .inr ⟨g, cap, cur, hv, hb, blk_turn (t := e) hgg hg hr, r⟩
/-- What a sequence tells: the threads of all that stand in priority p. -/
def selQ (p : Int) (l : List (Nat × Nat)) : List Nat := (l.filter fun x => decide ((x.1 : Int) = p)).map (·.2)
theorem selQ_snoc_yes (p : Int) (l : List (Nat × Nat)) (x : Nat × Nat) (h : (x.1 : Int) = p) : selQ p (l ++ [x]) = selQ p l ++ [x.2] := by simp [selQ, h]
theorem selQ_snoc_no (p : Int) (l : List (Nat × Nat)) (x : Nat × Nat) (h : (x.1 : Int) ≠ p) : selQ p (l ++ [x]) = selQ p l := by simp [selQ, h]
theorem selQ_le (p : Int) (l : List (Nat × Nat)) : (selQ p l).length ≤ l.length := by unfold selQ; rw [List.length_map]; exact List.length_filter_le _ _
theorem selQ_append (p : Int) (l r : List (Nat × Nat)) : selQ p (l ++ r) = selQ p l ++ selQ p r := by simp [selQ]
theorem selQ_below (q : Nat → List Nat) (p : Nat) : ∀ P, selQ (p : Int) (below q P) = if p < P then q p else []
  | 0 => by simp [below, selQ]
  | P + 1 => by
    rw [below, selQ_append, selQ_below q p P]
    by_cases h : P = p
    · subst h
      have : selQ (P : Int) ((q P).map fun t => (P, t)) = q P := by
        unfold selQ
        rw [List.filter_eq_self.2 (by intro a ha; simp at ha; obtain ⟨b, _, rfl⟩ := ha; simp)]
        rw [List.map_map]
        exact List.map_id _
      rw [this]
      simp
    · have : selQ (p : Int) ((q P).map fun t => (P, t)) = [] := by
        unfold selQ
        rw [List.filter_eq_nil_iff.2 (by intro a ha; simp at ha; obtain ⟨b, _, rfl⟩ := ha; simp; omega)]
        rfl
      rw [this, List.nil_append]
      by_cases h' : p < P
      · rw [if_pos h', if_pos (by omega)]
      · rw [if_neg h', if_neg (by omega)]

set_option maxHeartbeats 4000000 in
theorem list_any (g : Nat) (p : Int) (q : Nat → List Nat) (st : Int) (hq : (allQ q).length ≤ 1000) (w : World) (h : RL w g q st) : Calls Try.prog 40 #[ptr g, .int .i64 p] w fun e w' => (∃ A c, e = .returned (.slice A (selQ p (allQ q)).length c) ∧ w'.ownsRow w.heap.size 3 1 (.slice A (selQ p (allQ q)).length c) (selQ p (allQ q)).length (NV (selQ p (allQ q)))) ∧ Only [] w w' := by
  refine (callsIn_wide (n := 8)).1 ?_
  have hglt : g < w.heap.size := by obtain ⟨s, prio, bits, ⟨cs, hB, _⟩, _⟩ := h; exact hB.lt
  have AL := fun W => all_any g W
  unfold ptr at AL ⊢
  refine callsIn_of_wp_marks Try.func40 rfl trivial ?_ rfl
  simp only [Try.ntmps40, List.size_toArray, List.length_cons, List.length_nil, Nat.reduceAdd, Nat.reduceSub, Array.replicate_succ, Array.replicate_zero, List.push_toArray, List.append_toArray, List.nil_append, List.cons_append]
  gi_wp2_with (first
    | (refine ⟨trivial, ?_⟩; gi_at_call 64; refine (callsIn_wide.2 (AL _)).mono ?_; rintro e w' ⟨rfl, rfl⟩)
    | (apply wpIn_scope_wide))
  have bP := ((Blk.new w 3 #[.int .i64 p]).alloc (.cells #[.slice none 0 0] 32)).alloc (.cells #[ptr g] 55)
  have bI := (Blk.new (w.alloc (.cells #[.int .i64 p] 3)) 32 #[.slice none 0 0]).alloc (.cells #[ptr g] 55)
  have bT := Blk.new ((w.alloc (.cells #[.int .i64 p] 3)).alloc (.cells #[.slice none 0 0] 32)) 55 #[ptr g]
  rw [World.size_alloc] at bI
  rw [World.size_alloc, World.size_alloc] at bT
  have oB : Below w.heap.size w (((w.alloc (.cells #[.int .i64 p] 3)).alloc (.cells #[.slice none 0 0] 32)).alloc (.cells #[ptr g] 55)) := (((Below.refl w.heap.size w).alloc (Nat.le_refl _) _).alloc (by simp) _).alloc (by simp; omega) _
  have hsz : (((w.alloc (.cells #[.int .i64 p] 3)).alloc (.cells #[.slice none 0 0] 32)).alloc (.cells #[ptr g] 55)).heap.size = w.heap.size + 3 := by simp
  change Code.wpIn _ _ _ _ _ _ (((w.alloc (.cells #[.int .i64 p] 3)).alloc (.cells #[.slice none 0 0] 32)).alloc (.cells #[ptr g] 55))
  obtain ⟨V, hV⟩ : ∃ V, ((w.alloc (.cells #[.int .i64 p] 3)).alloc (.cells #[.slice none 0 0] 32)).alloc (.cells #[ptr g] 55) = V := ⟨_, rfl⟩
  rw [hV] at bI bT bP oB hsz ⊢
  clear hV AL
  have hRL : RL V g q st := h.only (only_of_below oB) (by simp)
  refine' wpIn_rangeFunc_ownG (F := Fence.wide) (n := 8) rfl (by decide) (gf := 71) (lb := #[.pointer (some ⟨w.heap.size + 1 + 1, 0, none⟩)]) rfl trivial (enters_of Try.func71 (by kernel_rfl) rfl)
    (all_stops 7 g (w.heap.size + 1 + 1) (by decide) q st V bT hRL) (fun h k => h.trans k) (fun W l o o' hl h hc hw => Kps.putObj W l o o' h hc) (Below.refl _ _) (fun _ => rfl)
    (fun pre W => (∃ A c, Blk W (w.heap.size + 1) 32 #[.slice A (selQ p pre).length c] ∧ W.ownsRow (w.heap.size + 3) 3 1 (.slice A (selQ p pre).length c) (selQ p pre).length (NV (selQ p pre))) ∧ Blk W w.heap.size 3 #[.int .i64 p] ∧ Below w.heap.size w W ∧ w.heap.size + 3 ≤ W.heap.size)
    (fun c pre W => False)
    (fun s A B row hs hg hr => by
      obtain ⟨⟨A', c', h1, h2⟩, h3, h4, h5⟩ := hs
      exact ⟨⟨A', c', blk_turn h1 hg (fun r e => (hr r e).2), own_turn h2 hg (fun r e => (hr r e).2)⟩, blk_turn h3 hg (fun r e => (hr r e).2), h4.grown hg h4.size (fun k e => by have := (hr k e).1; omega), Nat.le_trans h5 hg.size⟩)
    (fun c s A B row hs hg hr => hs.elim)
    ⟨⟨none, 0, bI, World.ownsRow_nil ..⟩, bP, oB, by omega⟩ _ ?assign ?body ?done ?stop
  case assign =>
    intro l x W K hK
    gi_wp2
    exact hK
  case body =>
    rintro l pre x W ⟨⟨A, c, hb, hown⟩, hp, ho, hWs3⟩ hlen
    try dsimp only
    have c0 : W.cell? ⟨w.heap.size, 0, none⟩ = some (.int .i64 p) := by simpa using hp.cell 0
    have c1 : W.cell? ⟨w.heap.size + 1, 0, none⟩ = some (.slice A (selQ p pre).length c) := by simpa using hb.cell 0
    have hsl := selQ_le p pre
    have hWs := hb.lt
    by_cases hx : (x.1 : Int) = p
    · have gx : ((x.1 : Int) == p) = true := by simp [hx]
      have hge := own_ge hown
      have hkc := own_cells hown
      obtain ⟨g', cap', w2, hrun, hown2, o2, hgg⟩ := app_one W (w.heap.size + 3) A c (selQ p pre) x.2 hown (by omega) hWs3
      have hne : ∀ k, k < w.heap.size + 3 → k ∉ blkOf A := fun k hk hm => by have := (hge k hm).1; omega
      have hb2 := hb.only o2 (hne _ (by omega))
      have hp2 := hp.only o2 (hne _ (by omega))
      have f2 := hb2.frozen 0
      have d2 : w2.cell? ⟨w.heap.size + 1, 0, none⟩ = some (.slice A (selQ p pre).length c) := by simpa using hb2.cell 0
      have KO := hide (ko_of_only o2 hkc)
      have HO := hide hown2
      have O2 := hide o2
      clear hown2 hown o2 hkc hb hp
      gi_wp2
      have hk2 : Kps [g, w.heap.size + 1 + 1] W w2 := Kps.only O2.out (by intro k hk; simp at hk; exact hne k (by omega))
      have hne1 : ∀ k ∈ blkOf (some (⟨g', 0, none⟩ : Addr)), k ∉ [w.heap.size + 1] := by
        intro k hk
        simp [blkOf] at hk
        subst hk
        have : w.heap.size + 3 ≤ k := hgg.elim (fun h => (hge k h).1) (fun h => by omega)
        simp
        omega
      refine ⟨KeepsFrom.trans (KO.out.from _) (kf_set _ _ _ _), hk2.trans (kps_set _ _ _ (by simp; omega)), ⟨some ⟨g', 0, none⟩, cap', ?_⟩, hp2.far (p := ⟨w.heap.size + 1, 0, none⟩) (by simp) _, ?_, ?_⟩
      · rw [selQ_snoc_yes p pre x hx]
        refine ⟨?_, own_only' HO.out ((Only.refl [w.heap.size + 1] w2).setCell (p := ⟨w.heap.size + 1, 0, none⟩) (.inl (by simp)) _) hne1⟩
        have := hb2.set_ 0 (.slice (some ⟨g', 0, none⟩) ((selQ p pre).length + 1) cap')
        simpa using this
      · have h2 : Below w.heap.size W w2 := ⟨O2.out.os, O2.out.tape, O2.out.output, by have := O2.out.size; omega, fun k hk => O2.out.block k (by omega) (hne k (by omega))⟩
        exact (ho.trans h2).setCell (p := ⟨w.heap.size + 1, 0, none⟩) (by simp) _
      · have := O2.out.size
        simp
        omega
    · have gx : ((x.1 : Int) == p) = false := by simp [hx]
      gi_wp2
      exact ⟨KeepsFrom.refl _ _, Kps.refl _ _, ⟨A, c, by rw [selQ_snoc_no p pre x hx]; exact ⟨hb, hown⟩⟩, hp, ho, hWs3⟩
  case done =>
    rintro D ys V1 hDa rfl ⟨⟨A, c, hb, hown⟩, hp, ho, -⟩ hK1
    have c1 : V1.cell? ⟨w.heap.size + 1, 0, none⟩ = some (.slice A (selQ p (allQ q)).length c) := by simpa using hb.cell 0
    gi_wp2
    refine ⟨by simp, .inl ⟨_, _, rfl, run_takeDeferred hK1, ?_⟩⟩
    have hgr := grownBy_putObj' V1 D (.deferred none)
    exact ⟨.slice A (selQ p (allQ q)).length c, by simp [results, Try.results40, Try.f40, go_sem], ⟨A, c, rfl, own_mono (own_turn hown hgr (fun r e => by cases e; exact ⟨_, hK1, rfl⟩)) (by omega)⟩, only_of_below (ho.trans (belowK_b (w := w) (Nat.le_refl _) V1 D _ (.deferred none) (by omega) hK1 rfl rfl))⟩
  case stop =>
    rintro D c pre V1 hDb hpre hf
    exact hf.elim
end Go.Proofs.Ytnndengdlokmbaa
