/- Script: the walks of Stretches, of the law's stretches and same. Condition: the events lie. -/
import Derived.Test.YteblhklclcjonaaGreatDoorSm2
import Derived.Test.YteblhklclcjonaaGreatDoorSk1
namespace Go.Proofs.YteblhklclcjonaaGreatDoor
open Go.RowKit Go.Shelf
set_option linter.unusedVariables false
set_option linter.all false
set_option maxRecDepth 100000
attribute [local go_sem] Oper.semAt_some
attribute [local go_sem ↓] app_hide

theorem str_stops {w : World} (n bx N len c : Nat) (A : Option Addr) (f : Nat → Ev) (hn : 1 ≤ n) (hlen : len ≤ 1000000) (hN : N ≤ w.heap.size) (hbx : bx < N) (hA : EvLt A N) (hE : EvAt w A len f) (hb : Blk w bx 27 #[.slice A len c]) :
    SeqStopsK Fence.wide n Tryz.prog 36 #[.pointer (some ⟨bx, 0, none⟩)] (fun x : Str => #[Value.agg #[.int .i64 x.ev.kind, .int .i64 x.ev.num, .int .i64 x.n]]) (Kpn N) (fun ys => ys = strF (evL len f)) (fun pre => pre <+: strF (evL len f)) (strF (evL len f)).length w := by
  intro l J Jx W hW hJ hJx hY h0
  have hsz := hW.size
  exact str1_in n l bx N len c A f hn hlen J Jx W hJ hY (by omega) hbx hA (hE.only0 (only_of_below hW)) (hb.below hW hb.lt) h0
theorem stretches_any (A : Option Addr) (n c : Nat) (w : World) : Calls Tryz.prog 17 #[.slice A n c] w fun e w' => e = .returned (.func (.func 36) #[] #[.pointer (some ⟨w.heap.size, 0, none⟩)]) ∧ w' = w.alloc (.cells #[.slice A n c] 27) := by
  go_enter Tryz.func17, Tryz.ntmps17
  go_wp2_with fail
  go_ret
  exact ⟨rfl, rfl⟩
def StV (l : List Str) : List Value := l.flatMap fun x => [.int .i64 x.ev.kind, .int .i64 x.ev.num, .int .i64 x.n]
def Ss (w : World) (B : Nat) (A : Option Addr) (c : Nat) (l : List Str) : Prop := w.ownsRow B 26 3 (.slice A l.length c) l.length (StV l)
theorem Ss.only0 {w w' : World} {B : Nat} {A : Option Addr} {c : Nat} {l : List Str} (h : Ss w B A c l) (o : Only [] w w') : Ss w' B A c l := own_only' h o (by simp)
theorem StV_append (a b : List Str) : StV (a ++ b) = StV a ++ StV b := by simp [StV]
theorem info26e : (Tryz.prog.info? 26).map (fun i => (i.zero, i.size, i.bytes)) = some (some (.agg #[.int .i64 0, .int .i64 0, .int .i64 0]), 3, 24) := by kernel_rfl
theorem app_st (W : World) (B : Nat) (A : Option Addr) (c : Nat) (l : List Str) (x : Str) (hrow : Ss W B A c l) (hl : l.length ≤ 2000000) (hB : B ≤ W.heap.size) :
    ∃ g' c' w2, (AppH #[36, 36] 36 #[.slice A l.length c, .slice (some ⟨W.heap.size, 0, none⟩) 1 1]).run Tryz.prog (W.alloc (.cells #[.int .i64 x.ev.kind, .int .i64 x.ev.num, .int .i64 x.n] 26)) = .ok (.slice (some ⟨g', 0, none⟩) (l.length + 1) c') w2 ∧
      Ss w2 B (some ⟨g', 0, none⟩) c' (l ++ [x]) ∧ Only (blkOf A) W w2 ∧ (g' ∈ blkOf A ∨ W.heap.size ≤ g') := by
  obtain ⟨i0, hi, hz0, hz1, hz2⟩ := info_parts info26e
  obtain ⟨g', cap', w2, hrun, hown, ho, hgg⟩ := append_at (P := Tryz.prog) (W.alloc (.cells #[.int .i64 x.ev.kind, .int .i64 x.ev.num, .int .i64 x.n] 26)) B 36 36 26 i0 (.agg #[.int .i64 0, .int .i64 0, .int .i64 0]) 3 24 Tryz.underlying36 hi hz0 hz1 hz2 rfl (by omega) A l.length c (StV l) (own_only' hrow ((Only.refl [] W).alloc _) (by simp))
    ⟨W.heap.size, 0, none⟩ 1 1 [.int .i64 x.ev.kind, .int .i64 x.ev.num, .int .i64 x.n] rfl (fun j u hj => by
      have := (Blk.new W 26 #[.int .i64 x.ev.kind, .int .i64 x.ev.num, .int .i64 x.n]).cell j
      rw [add_mk, Nat.zero_add, this]
      rw [← Array.getElem?_toList]
      exact hj) (by intro u hu; simp at hu; rcases hu with rfl | rfl | rfl <;> rfl) (.inl (by omega)) (by unfold maxLen; omega) (by omega) (by simp; omega)
  rw [app_hide] at hrun
  have e : StV l ++ [.int .i64 x.ev.kind, .int .i64 x.ev.num, .int .i64 x.n] = StV (l ++ [x]) := by rw [StV_append]; simp [StV]
  rw [e] at hown
  refine ⟨g', cap', w2, hrun, by unfold Ss; simpa using hown, ((Only.refl (blkOf A) W).alloc _).trans' ho, ?_⟩
  rcases hgg with h | h
  · exact .inl h
  · simp at h; exact .inr (by omega)
theorem own_cells {w : World} {base size n c : Nat} {e : TypeId} {A : Option Addr} {xs : List Value} (h : w.ownsRow base e size (.slice A n c) n xs) : ∀ k ∈ blkOf A, ∃ cs t q, w.heap[k]? = some (.cells cs t q) := by
  intro k hk
  rcases A with _ | a
  · simp [blkOf] at hk
  · simp only [blkOf, List.mem_singleton] at hk
    subst hk
    rcases h.2 with ⟨hv, hn⟩ | ⟨g, cap, cur, hv, _, hg, _⟩
    · simp at hv
    · simp only [Value.slice.injEq, Option.some.injEq] at hv
      rw [hv.1]
      exact ⟨_, _, _, hg⟩
theorem ko_of_only {S : List Nat} {W W' : World} (h : Only S W W') (hS : ∀ k ∈ S, ∃ cs t q, W.heap[k]? = some (.cells cs t q)) : KeepsOthers W W' :=
  ⟨h.size, fun k o hk hc => (h.block k (Array.getElem?_eq_some_iff.1 hk).1 (fun hm => by
    obtain ⟨cs, t, q, e⟩ := hS k hm
    rw [e] at hk
    cases hk
    simp [Obj.isCells] at hc)).trans hk⟩
theorem kf_only0 {n : Nat} {W W' : World} (h : Only [] W W') : KeepsFrom n W W' := (ko_of_only h (fun _ hk => by cases hk)).from n
theorem eq_nilFunc (f : Fn) (A B : Array Value) (W : World) : (binOp .eql 44 (.func f A B) .nilFunc).run Tryz.prog W = .ok (.bool false) W := by
  have : (Op.equalIn (9999 + 1) 44 (.func f A B) .nilFunc).run Tryz.prog W = .ok false W := by
    unfold Op.equalIn
    simp [run_underlying Tryz.underlying44]
  have h2 : (Op.equalIn 10000 44 (.func f A B) .nilFunc).run Tryz.prog W = .ok false W := this
  simp [binOp, Op.equal, Op.maxDepth, h2]
theorem prefix_snoc {α : Type} {pre l : List α} {x : α} (h : pre <+: l) (hx : l[pre.length]? = some x) : pre ++ [x] <+: l := by
  obtain ⟨t, rfl⟩ := h
  rw [List.getElem?_append_right (Nat.le_refl _), Nat.sub_self] at hx
  cases t with
  | nil => cases hx
  | cons y ys => simp at hx; subst hx; exact ⟨ys, by simp⟩
/-- The law's frame behind an assignment. -/
def SF (A : Option Addr) (n c X bz : Nat) (v : Value) : Array Value := #[.slice A n c, undef, .slice none 0 0, .bool false, .func (.func 36) #[] #[.pointer (some ⟨X, 0, none⟩)], .pointer (some ⟨X + 1, 0, none⟩), .pointer (some ⟨bz, 0, none⟩), .slice A n c, .func (.func 36) #[] #[.pointer (some ⟨X, 0, none⟩)], .func (.func 36) #[] #[.pointer (some ⟨X, 0, none⟩)], .bool false, .func (.func 36) #[] #[.pointer (some ⟨X, 0, none⟩)], v, undef, undef, undef, undef, undef]
set_option maxHeartbeats 4000000 in
theorem strs_any (A : Option Addr) (n c : Nat) (f : Nat → Ev) (w : World) (hn : n ≤ 1000000) (hE : EvAt w A n f) (hA : EvLt A w.heap.size) : Calls Tryz.prog 11 #[.slice A n c] w fun e w' => (∃ B d, e = .returned (.tuple #[.slice B (strF (evL n f)).length d, .bool true]) ∧ Ss w' w.heap.size B d (strF (evL n f))) ∧ Only [] w w' := by
  obtain ⟨L, hL⟩ : ∃ L, strF (evL n f) = L := ⟨_, rfl⟩
  rw [hL]
  have SG := fun W => stretches_any A n c W
  have hNF := fun A B W => eq_nilFunc (Fn.func 36) A B W
  refine (callsIn_wide (n := 8)).1 ?_
  refine callsIn_of_wp_marks Tryz.func11 rfl trivial ?_ rfl
  simp only [Tryz.ntmps11, List.size_toArray, List.length_cons, List.length_nil, Nat.reduceAdd, Nat.reduceSub, Array.replicate_succ, Array.replicate_zero, List.push_toArray, List.append_toArray, List.nil_append, List.cons_append]
  refine wpIn_wide.2 ?_
  go_wp2_with (first
    | (go_at_call 17; (with_reducible refine (SG _).mono ?_); rintro e w1 ⟨rfl, hw⟩; obtain rfl := hw.symm; clear hw))
  obtain ⟨X, hX⟩ : ∃ X, w.heap.size = X := ⟨_, rfl⟩
  have bX := (Blk.new w 27 #[.slice A n c]).alloc (.cells #[.slice none 0 0] 36)
  have bO := Blk.new (w.alloc (.cells #[.slice A n c] 27)) 36 #[.slice none 0 0]
  have o7 := ((Only.refl [] w).alloc (.cells #[.slice A n c] 27)).alloc (.cells #[.slice none 0 0] 36)
  have hs7 : ((w.alloc (.cells #[.slice A n c] 27)).alloc (.cells #[.slice none 0 0] 36)).heap.size = X + 2 := by simp [hX]
  simp only [World.size_alloc, hX] at bX bO
  rw [hX] at hA
  obtain ⟨W7, hW7⟩ : ∃ W7, ((w.alloc (.cells #[.slice A n c] 27)).alloc (.cells #[.slice none 0 0] 36)) = W7 := ⟨_, rfl⟩
  rw [hW7] at bX bO o7 hs7 ⊢
  rw [hX]
  have hE7 := hE.only0 o7
  have hA7 : EvLt A (X + 1) := fun a e => by have := hA a e; omega
  have hLl : L.length ≤ 1000000 := by rw [← hL]; have := strF_len (evL n f); rw [evL_len] at this; omega
  have ST := str_stops (w := W7) 7 X (X + 1) n c A f (by decide) hn (by omega) (by omega) hA7 hE7 bX
  rw [hL] at ST
  clear hW7 hL hE hE7 SG hNF
  refine (wpIn_wide (n := 8)).1 ?_
  refine' wpIn_rangeFunc_ownH (F := Fence.wide) (n := 8) rfl (by decide) (gf := 36) (lb := #[.pointer (some ⟨X, 0, none⟩)]) rfl trivial (enters_of Tryz.func36 (by kernel_rfl) rfl)
    ST (fun h k => h.trans k) (fun W l o o' hl h hc hw => Kpn.putObj W l o o' (by omega)) (Below.refl _ _) (fun _ => rfl)
    (fun pre W => (∃ B d, Blk W (X + 1) 36 #[.slice B pre.length d] ∧ Ss W (X + 2) B d pre) ∧ Only [X + 1] W7 W)
    (fun c pre W => False)
    (fun s A B row hs hg hr => by
      obtain ⟨⟨B', d, h1, h2⟩, h3⟩ := hs
      exact ⟨⟨B', d, blk_turn h1 hg (fun r e => (hr r e).2), own_turn h2 hg (fun r e => (hr r e).2)⟩, h3.grown hg (fun k e => .inr (by have := (hr k e).1; omega))⟩)
    (fun c s A B row hs hg hr => hs.elim)
    ⟨⟨none, 0, bO, World.ownsRow_nil ..⟩, Only.refl _ _⟩ (fun x a' W => ∃ bz v, a' = { tmps := SF A n c X bz v, defers := [] } ∧ Blk W bz 26 #[.int .i64 x.ev.kind, .int .i64 x.ev.num, .int .i64 x.n])
    (fun x a' s A B row hs hg hr => by obtain ⟨bz, v, hv, hz⟩ := hs; exact ⟨bz, v, hv, blk_turn hz hg (fun r e => (hr r e).2)⟩) ?assign ?body ?done ?stop
  case assign =>
    rintro l pre x W K ⟨⟨B, d, h1, h2⟩, h3⟩ hK
    gi_wp2
    have oo := (Only.refl [] W).alloc (.cells #[.int .i64 x.ev.kind, .int .i64 x.ev.num, .int .i64 x.n] 26)
    have hlt := h1.lt
    exact hK _ _ (kf_only0 oo) (Kpn.only0 oo (by omega)) ⟨⟨B, d, h1.only oo (by simp), h2.only0 oo⟩, h3.trans0 oo⟩ ⟨W.heap.size, _, rfl, Blk.new W 26 _⟩
  case body =>
    rintro l pre x a' W hl0 ⟨r0, hr0⟩ ⟨⟨B, d, hb, hs⟩, hO⟩ ⟨bz, v, rfl, hz⟩ hlt
    try dsimp only
    unfold SF
    have c5 : W.cell? ⟨X + 1, 0, none⟩ = some (.slice B pre.length d) := hb.cell 0
    have cz0 := hz.cell 0
    have cz1 := hz.cell 1
    have cz2 := hz.cell 2
    have hge := own_ge hs
    have hkc := own_cells hs
    have hWs := hO.size
    obtain ⟨g', c', w2, hrun, hS2, o2, hgg⟩ := app_st W (X + 2) B d pre x hs (by omega) (by omega)
    have hne : ∀ k, k < X + 2 → k ∉ blkOf B := fun k hk hm => by have := (hge k hm).1; omega
    have hb2 := hb.only o2 (hne _ (by omega))
    have f2 := hb2.frozen 0
    have d2 : w2.cell? ⟨X + 1, 0, none⟩ = some (.slice B pre.length d) := hb2.cell 0
    have KO := hide (ko_of_only o2 hkc)
    have HS2 := hide hS2
    have HB2 := hide hb2
    have O2 := hide o2
    have HO := hide hO
    clear hS2 hb2 o2 hkc hb hz hs hO
    gi_wp2
    have hne1 : ∀ k ∈ blkOf (some (⟨g', 0, none⟩ : Addr)), k ∉ [X + 1] := by
      intro k hk
      simp [blkOf] at hk
      subst hk
      have : X + 2 ≤ k := hgg.elim (fun h => (hge k h).1) (fun h => by omega)
      simp
      omega
    refine ⟨KeepsFrom.trans (KO.out.from _) (kf_set _ _ _ _), ?_, ⟨some ⟨g', 0, none⟩, c', ?_, ?_⟩, ?_⟩
    · have k1 : Kpn (X + 1) W w2 := Kpn.only O2.out (by omega) (fun k hk => by have := hge k hk; omega)
      refine k1.trans ⟨by simp, fun k hk => ?_⟩
      rw [Below.heap_setCell w2 _ _ k (by simp only; omega)]
    · have := HB2.out.set_ 0 (.slice (some ⟨g', 0, none⟩) (pre.length + 1) c')
      simpa using this
    · exact own_only' HS2.out ((Only.refl [X + 1] w2).setCell (p := ⟨X + 1, 0, none⟩) (.inl (by simp)) _) hne1
    · exact (HO.out.trans O2.out (fun k hk => .inr (by have := hge k hk; omega))).setCell (p := ⟨X + 1, 0, none⟩) (.inl (by simp)) _
  case done =>
    rintro D ys V1 hDa rfl ⟨⟨B, d, hb, hs⟩, hO⟩ hK1
    have c5 : V1.cell? ⟨X + 1, 0, none⟩ = some (.slice B ys.length d) := hb.cell 0
    have hDl : X ≤ D := by omega
    have o7' := o7
    have HS := hide hs
    have HO := hide hO
    gi_wp2
    go_wp2_with fail
    refine ⟨by simp, .inl ⟨_, _, rfl, run_takeDeferred hK1, ?_⟩⟩
    have hgr := grownBy_putObj' V1 D (.deferred none)
    refine ⟨.tuple #[.slice B ys.length d, .bool true], by simp [results, Tryz.results11, Tryz.f11, go_sem], ⟨B, d, rfl, ?_⟩, ?_⟩
    · exact own_mono (own_turn HS.out hgr (fun r e => by cases e; exact ⟨_, hK1, rfl⟩)) (by omega)
    · have o1 : Only [X + 1] w V1 := (o7'.mono (by simp)).trans HO.out (fun x hx => .inl hx)
      have o2 : Only [X + 1] w (V1.putObj D (.deferred none)) := o1.grown hgr (fun k e => by cases e; exact .inr (by omega))
      exact o2.mono (fun x hx => .inr (by simp at hx; omega))
  case stop =>
    rintro D cc pre V1 hDb hpre hf
    exact hf.elim
end Go.Proofs.YteblhklclcjonaaGreatDoor
