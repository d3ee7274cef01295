/- Signals: the walk of stands. Condition: both signals lie. -/
import Derived.Test.YtnmlcijkggfhmaaSf3
import Derived.BigQuiet
namespace Go.Proofs.Ytnmlcijkggfhmaa
open Go.RowKit Go.Shelf Go.BigFrame
set_option linter.unusedVariables false
set_option linter.all false
set_option maxRecDepth 100000
attribute [local go_sem] Oper.semAt_some

theorem eq_nilFunc (f : Fn) (A B : Array Value) (W : World) : (binOp .eql 78 (.func f A B) .nilFunc).run Try.prog W = .ok (.bool false) W := by
  have : (Op.equalIn (9999 + 1) 78 (.func f A B) .nilFunc).run Try.prog W = .ok false W := by
    unfold Op.equalIn
    simp [run_underlying Try.underlying78]
  have h2 : (Op.equalIn 10000 78 (.func f A B) .nilFunc).run Try.prog W = .ok false W := this
  simp [binOp, Op.equal, Op.maxDepth, h2]
theorem prefix_snoc {α : Type} {pre l : List α} {x : α} (h : pre <+: l) (hx : l[pre.length]? = some x) : pre ++ [x] <+: l := by
  obtain ⟨r, rfl⟩ := h
  rw [List.getElem?_append_right (Nat.le_refl _), Nat.sub_self] at hx
  cases r with
  | nil => simp at hx
  | cons y r =>
    simp at hx
    subst hx
    exact ⟨r, by simp⟩
theorem prefix_head {α : Type} {pre l : List α} {x y : α} (h : pre ++ [x] <+: l) (hy : l[pre.length]? = some y) : x = y := by
  obtain ⟨r, rfl⟩ := h
  simp at hy
  exact hy
theorem own_blk {w : World} {base size n c : Nat} {e : TypeId} {A : Option Addr} {xs : List Value} (h : w.ownsRow base e size (.slice A n c) n xs) {k : Nat} (hk : k ∈ blkOf A) : ∃ cs, Blk w k e cs := by
  rcases A with _ | a
  · simp [blkOf] at hk
  · simp only [blkOf, List.mem_singleton] at hk
    subst hk
    rcases h.2 with ⟨hv, hn⟩ | ⟨g, cap, cur, hv, _, hg, _⟩
    · simp at hv
    · simp only [Value.slice.injEq, Option.some.injEq] at hv
      obtain ⟨rfl, _⟩ := hv
      exact ⟨_, hg⟩
/-! ## A region that draws its order and only reads, within a round -/
section
variable {F : Fence} {n : Nat} {P : Program} {md : Region.Mode} {ops : Array Oper} {C : World → Prop}
def noDefer (o : Oper) : Bool := match o.op with
  | .defer _ => false
  | _ => true
theorem noDefer_spec {o : Oper} (h : noDefer o = true) : ∀ c, o.op ≠ .defer c := by
  intro c hc
  unfold noDefer at h
  rw [hc] at h
  cases h
theorem oper_of_quiet_r {o : Oper} {a : Act} {K : Act → Prop} {K' : Act → World → Prop} {Q' : Exit → Act → World → Prop} {w : World} (hnd : ∀ c, o.op ≠ .defer c) (hw : C w) (h : ∀ a w', C w' → K a → K' a w')
    (ha : o.askedIn F P a C) (hh : o.quietIn F n P a C K) : o.wpIn F n P a w K' Q' := by
  obtain ⟨v, h1, h2⟩ := hh
  have h3 := h1 w hw
  unfold Oper.quietAtIn at h3
  unfold Oper.wpIn
  refine ⟨ha w hw, ?_⟩
  rw [Oper.semAt_eq _ _ _ hnd]
  generalize (execOp a.eval o).run P w = r at *
  cases r with
  | ok x w' =>
    cases x <;> simp only [Oper.quietUponIn] at h3 <;> simp only [Oper.uponIn]
    case value u =>
      obtain ⟨e1, e2⟩ := h3
      rw [e1, e2]
      exact h _ _ hw h2
    case skip =>
      obtain ⟨e1, e2⟩ := h3
      rw [e1, ← e2]
      exact h _ _ hw h2
    case enter f args =>
      obtain ⟨e1, hd, hc⟩ := h3
      rw [e1]
      exact ⟨hd, hc.mono fun e w'' ⟨he, hw''⟩ => by subst he; exact h _ _ hw'' h2⟩
  | halt x w' => simp only [Oper.quietUponIn] at h3
theorem op_of_quiet_r {i : Nat} {a : Act} {K : Act → Prop} {K' : Act → World → Prop} {Q' : Exit → Act → World → Prop} {w : World} (hnd : ∀ o ∈ ops.toList, noDefer o = true) (hC : C w) (h : ∀ a w', C w' → K a → K' a w')
    (hh : qOpIn F n P ops C i K a) : wpOpIn F n P ops Q' i K' a w := by
  unfold qOpIn at hh
  unfold wpOpIn
  split
  · rename_i ho; simp only [ho] at hh; exact h _ _ hC hh
  · rename_i o ho
    simp only [ho] at hh
    obtain ⟨ha, hh⟩ := hh
    have hm : o ∈ ops.toList := by
      have := Array.mem_of_getElem? ho
      simpa using this
    split
    · rename_i hw; simp only [hw, if_true] at hh; exact oper_of_quiet_r (noDefer_spec (hnd o hm)) hC h ha hh
    · rename_i hw; simp only [hw] at hh; exact ⟨ha w hC, h _ _ hC hh⟩
theorem any_of_quiet_r {Q : Act → Prop} {Q' : Exit → Act → World → Prop} (hnd : ∀ o ∈ ops.toList, noDefer o = true) (hQ : ∀ a w, C w → Q a → Q' .normal a w) : ∀ (fuel : Nat) (listed : Array Bool) (a : Act) (w : World), C w →
    wpAnyQIn F n P md ops C Q fuel listed a → wpAnyIn F n P md ops Q' fuel listed a w
  | 0, _, _, _, hw, h => ⟨h.1, hQ _ _ hw h.2⟩
  | fuel + 1, _, _, _, hw, h => ⟨fun h0 => hQ _ _ hw (h.1 h0), fun i hi => op_of_quiet_r hnd hw (fun a' w' hw' => any_of_quiet_r hnd hQ fuel _ a' w' hw') (h.2 i hi)⟩
theorem region_quiet_r {id : Nat} {Q : Exit → Act → World → Prop} {a : Act} {w : World} {l : List Oper} (hnd : l.all noDefer = true) (hm : P.follows .mixedOrders = true) (hB : Region.lexB .any l.toArray = true)
    (h : wpQuietIn F n P l.toArray (fun w' => ∃ n, w' = w.drewN n) (fun a' => ∀ w', (∃ n, w' = w.drewN n) → Q .normal a' w') l a) : (Code.region id l.toArray true).wpIn F n P Q a w := by
  simp only [Region.lexB, Bool.and_eq_true] at hB
  refine wpIn_region_any hm (any_of_quiet_r (C := fun w' => ∃ n, w' = w.drewN n) (Q := fun a' => ∀ w', (∃ n, w' = w.drewN n) → Q .normal a' w') (by simpa using hnd) (fun _ w' hw' h => h w' hw') _ _ _ _ ⟨1, rfl⟩ ?_)
  have := wpAnyQIn_lex (F := F) (n := n) (C := fun w' => ∃ n, w' = w.drewN n) (md := .any) hB.1 l.toArray.toList 0 (Array.replicate l.toArray.size false) a (by simp) (by simpa using hB.2) (by simpa using h)
  simpa using this
end
/-- The second loop's frame; and within a round over what is pending. -/
def TF (g d X Y bt : Nat) (v : Nat → Value) : Array Value := #[.pointer (some ⟨g, 0, none⟩), .pointer (some ⟨d, 0, none⟩), v 2, v 3, v 4, v 5, .pointer (some ⟨X, 0, none⟩), .pointer (some ⟨X + 1, 0, none⟩), .pointer (some ⟨X + 1 + 1, 0, none⟩), v 9, v 10, v 11, v 12, v 13, .pointer (some ⟨Y, 0, none⟩), .func (.func 46) #[] #[.pointer (some ⟨Y + 1, 0, none⟩), .pointer (some ⟨Y + 1 + 1, 0, none⟩)], .pointer (some ⟨bt, 0, none⟩), v 17, v 18, v 19, v 20, v 21, v 22, v 23, v 24, v 25, v 26, v 27, v 28, v 29, v 30, v 31, v 32, v 33, v 34, v 35, v 36, v 37, v 38, v 39, v 40, v 41, v 42, v 43, v 44, v 45, v 46, v 47, v 48, v 49, v 50, v 51, v 52, v 53, v 54, v 55, v 56, v 57, v 58, v 59, v 60, v 61, v 62, v 63, v 64, v 65, v 66, v 67, v 68, v 69, v 70, v 71, v 72, v 73, v 74, v 75, v 76, v 77, v 78, v 79, v 80, v 81, v 82, v 83, v 84, v 85, v 86, v 87, v 88, v 89, v 90, v 91, v 92, v 93, v 94, v 95, v 96, v 97, v 98, v 99, v 100, v 101, v 102, v 103, v 104, v 105, v 106, v 107, v 108, v 109, v 110, v 111, v 112, v 113, v 114, v 115, v 116, v 117, v 118, v 119, v 120, v 121, v 122, v 123, v 124, v 125, v 126, v 127, v 128, v 129, v 130, v 131, v 132, v 133, v 134, v 135, v 136, v 137, v 138, v 139, v 140, v 141, v 142, v 143, v 144, v 145]
def TB (g d X Y bt b18 bz : Nat) (v : Nat → Value) : Array Value := #[.pointer (some ⟨g, 0, none⟩), .pointer (some ⟨d, 0, none⟩), v 2, v 3, v 4, v 5, .pointer (some ⟨X, 0, none⟩), .pointer (some ⟨X + 1, 0, none⟩), .pointer (some ⟨X + 1 + 1, 0, none⟩), v 9, v 10, v 11, v 12, v 13, .pointer (some ⟨Y, 0, none⟩), .func (.func 46) #[] #[.pointer (some ⟨Y + 1, 0, none⟩), .pointer (some ⟨Y + 1 + 1, 0, none⟩)], .pointer (some ⟨bt, 0, none⟩), .pointer (some ⟨b18, 0, none⟩), .pointer (some ⟨bz, 0, none⟩), v 19, v 20, v 21, v 22, v 23, v 24, v 25, v 26, v 27, v 28, v 29, v 30, v 31, v 32, v 33, v 34, v 35, v 36, v 37, v 38, v 39, v 40, v 41, v 42, v 43, v 44, v 45, v 46, v 47, v 48, v 49, v 50, v 51, v 52, v 53, v 54, v 55, v 56, v 57, v 58, v 59, v 60, v 61, v 62, v 63, v 64, v 65, v 66, v 67, v 68, v 69, v 70, v 71, v 72, v 73, v 74, v 75, v 76, v 77, v 78, v 79, v 80, v 81, v 82, v 83, v 84, v 85, v 86, v 87, v 88, v 89, v 90, v 91, v 92, v 93, v 94, v 95, v 96, v 97, v 98, v 99, v 100, v 101, v 102, v 103, v 104, v 105, v 106, v 107, v 108, v 109, v 110, v 111, v 112, v 113, v 114, v 115, v 116, v 117, v 118, v 119, v 120, v 121, v 122, v 123, v 124, v 125, v 126, v 127, v 128, v 129, v 130, v 131, v 132, v 133, v 134, v 135, v 136, v 137, v 138, v 139, v 140, v 141, v 142, v 143, v 144, v 145]
theorem TF_intro {g d X Y bt : Nat} {tm : Array Value} {D D' : List Deferred} (hd : D = D') (h : tm = TF g d X Y bt (fun k => tm.getD k undef)) : ∃ v, ({ tmps := tm, defers := D } : Act) = { tmps := TF g d X Y bt v, defers := D' } := ⟨fun k => tm.getD k undef, by rw [← h, hd]⟩
theorem TB_intro {g d X Y bt b18 bz : Nat} {tm : Array Value} {D D' : List Deferred} (hd : D = D') (h : tm = TB g d X Y bt b18 bz (fun k => tm.getD k undef)) : ∃ v, ({ tmps := tm, defers := D } : Act) = { tmps := TB g d X Y bt b18 bz v, defers := D' } := ⟨fun k => tm.getD k undef, by rw [← h, hd]⟩
/-- How the second loop stands between two turns. -/
def Turn (g d X Y : Nat) (V : World) (T : Nat) (a : Act) (W : World) : Prop := ∃ (bt : Nat) (ds : List Nat),
  (∃ v, a = { tmps := TF g d X Y bt v, defers := ds.map fun D => { target := .collected D, args := #[] } }) ∧
  ds.length = T ∧ ds.Nodup ∧ Blk W bt 3 #[.int .i64 (T : Int)] ∧ (bt = Y + 3 ∨ V.heap.size ≤ bt) ∧ Only [Y + 3] V W ∧ ∀ D ∈ ds, V.heap.size ≤ D ∧ W.heap[D]? = some (.deferred (some []))
theorem loop_turns {P : Program} {c : Code} {Q : Exit → Act → World → Prop} {a : Act} {w : World} {n : Nat} (I : Nat → Act → World → Prop) (N : Nat) (h0 : I 0 a w)
    (step : ∀ k, k < N → ∀ a w, I k a w → c.wpIn Fence.wide n P (fun e a' w' => e = .normal ∧ I (k + 1) a' w') a w) (last : ∀ a w (Q' : Act → World → Prop), I N a w → c.wpIn Fence.wide n P (Exit.then Q' Q) a w) : (Code.loop c).wpIn Fence.wide n P Q a w := by
  have key : ∀ j k a w, k + j = N → I k a w → Code.roundsIn Fence.wide n P c Q (j + 1) a w := by
    intro j
    induction j with
    | zero => intro k a w hk hI; rw [roundsIn_succ]; exact last a w _ ((show k = N by omega) ▸ hI)
    | succ j ih =>
      intro k a w hk hI
      rw [roundsIn_succ]
      refine wpIn_mono (step k (by omega) a w hI) ?_
      rintro e a' w' ⟨rfl, h⟩
      exact ih (k + 1) a' w' (by omega) h
  exact wpIn_loop_rounds (N + 1) (key N 0 a w (by omega) h0)
theorem kf_only0 {n : Nat} {A B : World} (h : Only [] A B) : KeepsFrom n A B := ⟨h.size, fun k o _ hk _ => (h.block k (Array.getElem?_eq_some_iff.1 hk).1 (by simp)).trans hk⟩
theorem cell_kept {W W' : World} {row : Option Nat} {p : Addr} {v : Value} (h : W.cell? p = some v) (hg : W.grownBy W' row) (hr : ∀ r, row = some r → ∃ o : Obj, W.heap[r]? = some o ∧ o.isCells = false) : W'.cell? p = some v := by
  have hlt := World.block_lt_of_cell? W p h
  refine (World.cell?_of_block (w := W) (hg.block p.block hlt (fun e => ?_))).trans h
  obtain ⟨o, ho, hc⟩ := hr p.block e.symm
  unfold World.cell? at h
  rw [ho] at h
  cases o <;> simp [Obj.isCells] at hc h
theorem defer_turn {W W' : World} {row : Option Nat} {D B : Nat} {o : Obj} (h : W.heap[D]? = some o) (hD : D < B) (hg : W.grownBy W' row) (hr : ∀ r, row = some r → B ≤ r ∧ ∃ o : Obj, W.heap[r]? = some o ∧ o.isCells = false) : W'.heap[D]? = some o :=
  (hg.block D (Array.getElem?_eq_some_iff.1 h).1 (fun e => by have := (hr D e.symm).1; omega)).trans h
theorem fin_turn (Y : Nat) (V : World) (T : Nat) (ds : List Nat) (D : Nat) (V1 : World) (hl : ds.length = T) (hn : ds.Nodup) (hO : Only [Y + 3] V V1) (hD : ∀ D ∈ ds, V1.heap[D]? = some (.deferred (some []))) (hK : V1.heap[D]? = some (.deferred (some []))) (hge : ∀ D ∈ ds, V.heap.size ≤ D) (hge2 : V.heap.size ≤ D) (hnd : D ∉ ds) :
    ∀ (z : Int), z = (T : Int) + 1 → (D :: ds).length = T + 1 ∧ (D :: ds).Nodup ∧ Blk (V1.alloc (.cells #[.int .i64 z] 3)) V1.heap.size 3 #[.int .i64 ((T + 1 : Nat) : Int)] ∧ (V1.heap.size = Y + 3 ∨ V.heap.size ≤ V1.heap.size) ∧ Only [Y + 3] V (V1.alloc (.cells #[.int .i64 z] 3)) ∧ ∀ D' ∈ D :: ds, V.heap.size ≤ D' ∧ (V1.alloc (.cells #[.int .i64 z] 3)).heap[D']? = some (.deferred (some [])) := by
  rintro z rfl
  refine ⟨by simp [hl], List.nodup_cons.2 ⟨hnd, hn⟩, ?_, .inr hO.size, hO.alloc _, fun D' h => ?_⟩
  · push_cast
    exact Blk.new V1 3 #[.int .i64 ((T : Int) + 1)]
  · rcases List.mem_cons.1 h with rfl | h
    · exact ⟨hge2, heap_keep_alloc _ hK⟩
    · exact ⟨hge D' h, heap_keep_alloc _ (hD D' h)⟩
section
variable {w : World} {g mb d T S : Nat} {L : List Snt} {M : Nat → Nat} {Bs : List Nat}
set_option maxHeartbeats 16000000 in
theorem stands_any (hS : SG w g mb T S L M Bs) (hD : DS w d T S L M) (k t n v : Int) (s : Nat) (hs : s < 4294967296) (leave : Int) :
    Calls Try.prog 16 #[ptr g, ptr d, .agg (stpC k t n v s), .int .i64 leave] w fun e w' => e = .returned (.bool true) ∧ Only [] w w' := by
  have HS := hide hS
  have HD := hide hD
  obtain ⟨a, b, c, hp⟩ : ∃ (a : Nat) (b : Int) (c : Bool), sigV (peekI T L t s) = .tuple #[.agg #[.int .i64 (a : Int), .int .i64 b], .bool c] := by
    cases peekI T L t s with
    | none => exact ⟨0, 0, false, rfl⟩
    | some x => exact ⟨x.1, x.2, true, rfl⟩
  have A1 := fun V (o : Only [] w V) => peek_spec (hS.only0 o) t s hs
  have A2 := fun V (o : Only [] w V) => rpeek_spec (hD.only0 o) t s hs
  simp only [hp] at A1 A2
  have A3 := fun V (o : Only [] w V) => used_any (hS.only0 o)
  have A4 := fun V (o : Only [] w V) => rused_any (hD.only0 o)
  have M1 := fun V (o : Only [] w V) (i : Int) => mask_any (hS.only0 o) i
  have M2 := fun V (o : Only [] w V) (i : Int) => rmask_any (hD.only0 o) i
  have P1 := fun V (o : Only [] w V) (i : Int) => pending_any (hS.only0 o) i
  have P2 := fun V (o : Only [] w V) (i : Int) => rpending_any (hD.only0 o) i
  have O1 := fun V (o : Only [] w V) (i : Int) => open_any (hS.only0 o) i
  have RA := fun V (o : Only [] w V) => rall_any (hD.only0 o) t
  unfold ptr at A1 A2 A3 A4 M1 M2 P1 P2 O1 RA
  have A1 := hide A1
  have A2 := hide A2
  have A3 := hide A3
  have A4 := hide A4
  have M1 := hide M1
  have M2 := hide M2
  have P1 := hide P1
  have P2 := hide P2
  have O1 := hide O1
  have RA := hide RA
  have AL := hide (fun W => all_any (some ⟨g, 0, none⟩) t W)
  have z0 := fun W => neq36 (a : Int) (a : Int) b b W
  simp only [BEq.rfl, Bool.and_self, Bool.not_true] at z0
  obtain ⟨X, hX⟩ : ∃ X, w.heap.size = X := ⟨_, rfl⟩
  have hgl := hS.lt.1
  have hml := hS.lt.2.1
  have hBl := hide hS.lt.2.2
  have hdl := hD.lt
  rw [hX] at hgl hml hdl
  have hlen := hS.all_le t
  obtain ⟨W, hW⟩ : ∃ W, ((w.alloc (.cells (stpC k t n v s) 33)).alloc (.cells #[.int .i64 leave] 3)).alloc (.cells #[.bool false] 4) = W := ⟨_, rfl⟩
  have oW : Only [] w W := by rw [← hW]; exact (((Only.refl [] w).alloc _).alloc _).alloc _
  have bX : Blk W X 33 (stpC k t n v s) := by rw [← hW, ← hX]; exact ((Blk.new w 33 (stpC k t n v s)).alloc _).alloc _
  have bL : Blk W (X + 1) 3 #[.int .i64 leave] := by
    have := (Blk.new (w.alloc (.cells (stpC k t n v s) 33)) 3 #[.int .i64 leave]).alloc (.cells #[.bool false] 4)
    rw [World.size_alloc, hX, hW] at this
    exact this
  have bR : Blk W (X + 1 + 1) 4 #[.bool false] := by
    have := Blk.new ((w.alloc (.cells (stpC k t n v s) 33)).alloc (.cells #[.int .i64 leave] 3)) 4 #[.bool false]
    rw [World.size_alloc, World.size_alloc, hX, hW] at this
    exact this
  have hWX : W.heap.size = X + 1 + 1 + 1 := by rw [← hW, ← hX]; simp
  have KX := hide (fun V (o : Only [] W V) => (by
    have hb := bX.only o (by simp)
    exact ⟨hb.cell 1, hb.cell 4⟩ : V.cell? ⟨X, 1, none⟩ = some (.int .i64 t) ∧ V.cell? ⟨X, 4, none⟩ = some (.int .u32 s)))
  have BL := hide bL
  have BR := hide bR
  have OW := hide oW
  have k1 := (KX.out W (Only.refl _ _)).1
  have k4 := (KX.out W (Only.refl _ _)).2
  unfold stpC at hW
  clear hS hD hp oW bX bL bR
  refine (callsIn_wide (n := 8)).1 ?_
  unfold ptr stpC
  refine callsIn_of_wp_marks Try.func16 rfl trivial ?_ rfl
  simp only [Try.ntmps16, List.size_toArray, List.length_cons, List.length_nil, Nat.reduceAdd, Nat.reduceSub, Array.replicate_succ, Array.replicate_zero, List.push_toArray, List.append_toArray, List.nil_append, List.cons_append]
  refine wpIn_wide.2 ?_
  go_wp2_with (first
    | (go_at_call 23; (with_reducible refine (A1.out _ OW.out).mono ?_); rintro e w2 ⟨rfl, o2⟩; have O2 := hide o2; obtain ⟨y1, y4⟩ := KX.out (w2.alloc (.cells #[.int .i64 (a : Int), .int .i64 b] 36)) (O2.out.alloc _))
    | (go_at_call 32; (with_reducible refine (A2.out _ (OW.out.trans0 (O2.out.alloc _))).mono ?_); rintro e w3 ⟨rfl, o3⟩; have O3 := hide ((O2.out.alloc (.cells #[.int .i64 (a : Int), .int .i64 b] 36)).trans0 o3); have bb := ((Blk.new w2 36 #[.int .i64 (a : Int), .int .i64 b]).only o3 (by simp)).alloc (.cells #[.int .i64 (a : Int), .int .i64 b] 36); have u0 := bb.cell 0; have u1 := bb.cell 1; clear bb o2 o3)
    | (go_at_call 12; (with_reducible refine (A3.out _ (OW.out.trans0 (O3.out.alloc _))).mono ?_); rintro e w' ⟨rfl, hw⟩; obtain rfl := hw.symm; clear hw)
    | (go_at_call 33; (with_reducible refine (A4.out _ (OW.out.trans0 (O3.out.alloc _))).mono ?_); rintro e w' ⟨rfl, hw⟩; obtain rfl := hw.symm; clear hw))
  have O4 := hide (O3.out.alloc (.cells #[.int .i64 (a : Int), .int .i64 b] 36))
  clear u0 u1 y1 y4 k1 k4
  obtain ⟨W3, hW3⟩ : ∃ W3, w3.alloc (.cells #[.int .i64 (a : Int), .int .i64 b] 36) = W3 := ⟨_, rfl⟩
  rw [hW3] at O4 ⊢
  clear hW3
  go_loopw [13] (fun vt wr => ∃ k : Nat, k ≤ 18 ∧ vt = .int .i64 ((k : Int) - 1) ∧ W3 = wr) (fun vt _ => 18 - (intOf vt + 1).toNat)
  case atStart => exact ⟨0, by omega, rfl, rfl⟩
  case round =>
    obtain ⟨k, hk, rfl, hw⟩ := hrel
    obtain rfl := hw
    by_cases hk2 : k < 18
    · have i1 : (k : Int) - 1 ≤ 16 := by omega
      obtain ⟨p, hp⟩ : ∃ p, (k : Int) - 1 = p := ⟨_, rfl⟩
      rw [hp] at i1 ⊢
      have m1 := M1.out _ (OW.out.trans0 O4.out) p
      have m2 := M2.out _ (OW.out.trans0 O4.out) p
      have p1 := P1.out _ (OW.out.trans0 O4.out) p
      have p2 := P2.out _ (OW.out.trans0 O4.out) p
      have o1 := O1.out _ (OW.out.trans0 O4.out) p
      obtain ⟨mk, hmk⟩ : ∃ mk : Nat, maskI M T p = mk := ⟨_, rfl⟩
      obtain ⟨pk, hpk⟩ : ∃ pk : Nat, pendI L T p = pk := ⟨_, rfl⟩
      rw [hmk] at m1 m2 o1
      rw [hpk] at p1 p2 o1
      obtain ⟨ok, hok⟩ : ∃ ok : Int, bits .andNot .u32 (pk : Int) (mk : Int) = ok := ⟨_, rfl⟩
      rw [hok] at o1
      have m1 := hide m1
      have m2 := hide m2
      have p1 := hide p1
      have p2 := hide p2
      have o1 := hide o1
      clear hmk hpk
      go_wp2_with (first
        | (go_at_call 24; (with_reducible refine m1.out.mono ?_); rintro e w' ⟨rfl, hw⟩; obtain rfl := hw.symm; clear hw)
        | (go_at_call 34; (with_reducible refine m2.out.mono ?_); rintro e w' ⟨rfl, hw⟩; obtain rfl := hw.symm; clear hw)
        | (go_at_call 13; (with_reducible refine p1.out.mono ?_); rintro e w' ⟨rfl, hw⟩; obtain rfl := hw.symm; clear hw)
        | (go_at_call 35; (with_reducible refine p2.out.mono ?_); rintro e w' ⟨rfl, hw⟩; obtain rfl := hw.symm; clear hw)
        | (go_at_call 22; (with_reducible refine o1.out.mono ?_); rintro e w' ⟨rfl, hw⟩; obtain rfl := hw.symm; clear hw))
      go_roundw
      case rel => exact ⟨k + 1, by omega, by go_num, trivial⟩
      case measure => simp [intOf]; omega
    · obtain ⟨p, hp⟩ : ∃ p, (k : Int) - 1 = p := ⟨_, rfl⟩
      have i2 : ¬ (p ≤ 16) := by omega
      rw [hp]
      clear hp M1 M2 P1 P2 O1
      have hNF := fun A B W => eq_nilFunc (Fn.func 46) A B W
      have q1 := (KX.out _ O4.out).1
      go_wp2_with (first
        | (go_at_call 36; (with_reducible refine (RA.out _ (OW.out.trans0 O4.out)).mono ?_); rintro e w5 ⟨⟨A, cA, rfl, own5⟩, o5⟩; have O5 := hide (O4.out.trans0 o5); have HW5 := hide own5; have q2 := (KX.out _ (O5.out.alloc (.cells #[.slice A (allI T L t).length cA] 75))).1; clear own5 o5)
        | (go_at_call 37; (with_reducible refine (AL.out _).mono ?_); rintro e w' ⟨rfl, rfl⟩))
      clear hNF q1
      obtain ⟨Y, hY⟩ : ∃ Y, w5.heap.size = Y := ⟨_, rfl⟩
      obtain ⟨N, hN⟩ : ∃ N, (allI T L t).length = N := ⟨_, rfl⟩
      have bW := (((Blk.new w5 75 #[.slice A (allI T L t).length cA]).alloc (.cells #[ptr g] 24)).alloc (.cells #[.int .i64 t] 3)).alloc (.cells #[.int .i64 0] 3)
      have bX := ((Blk.new (w5.alloc (.cells #[.slice A (allI T L t).length cA] 75)) 24 #[ptr g]).alloc (.cells #[.int .i64 t] 3)).alloc (.cells #[.int .i64 0] 3)
      have bT := (Blk.new ((w5.alloc (.cells #[.slice A (allI T L t).length cA] 75)).alloc (.cells #[ptr g] 24)) 3 #[.int .i64 t]).alloc (.cells #[.int .i64 0] 3)
      have b17 := Blk.new (((w5.alloc (.cells #[.slice A (allI T L t).length cA] 75)).alloc (.cells #[ptr g] 24)).alloc (.cells #[.int .i64 t] 3)) 3 #[.int .i64 0]
      have oV := (((O5.out.alloc (.cells #[.slice A (allI T L t).length cA] 75)).alloc (.cells #[ptr g] 24)).alloc (.cells #[.int .i64 t] 3)).alloc (.cells #[.int .i64 0] 3)
      have o5V := (((((Only.refl [] w5).alloc (.cells #[.slice A (allI T L t).length cA] 75)).alloc (.cells #[ptr g] 24)).alloc (.cells #[.int .i64 t] 3)).alloc (.cells #[.int .i64 0] 3))
      have hsz : ((((w5.alloc (.cells #[.slice A (allI T L t).length cA] 75)).alloc (.cells #[ptr g] 24)).alloc (.cells #[.int .i64 t] 3)).alloc (.cells #[.int .i64 0] 3)).heap.size = Y + 4 := by simp [hY]
      change Code.wp _ _ _ _ ((((w5.alloc (.cells #[.slice A (allI T L t).length cA] 75)).alloc (.cells #[ptr g] 24)).alloc (.cells #[.int .i64 t] 3)).alloc (.cells #[.int .i64 0] 3))
      obtain ⟨V, hV⟩ : ∃ V, ((((w5.alloc (.cells #[.slice A (allI T L t).length cA] 75)).alloc (.cells #[ptr g] 24)).alloc (.cells #[.int .i64 t] 3)).alloc (.cells #[.int .i64 0] 3)) = V := ⟨_, rfl⟩
      simp only [World.size_alloc, hY, hV] at bW bX bT b17 oV o5V hsz
      rw [hV, hY]
      have OW7 := own_only' HW5.out o5V (by simp)
      have OV := hide (OW.out.trans0 oV)
      have RV := HS.out.only0 OV.out
      have E5 := BL.out.only oV (by simp)
      have E6 := BR.out.only oV (by simp)
      have hXY : X + 3 ≤ Y := by have := O5.out.size; omega
      rw [hN] at bW hlen
      clear hV hY oV o5V q2 O4 O5 HW5 O2 O3 i2 hk hk2 KX BL BR A1 A2 A3 A4 RA AL HS HD z0 k
      refine (wpIn_wide (n := 8)).1 ?_
      have hnA : (Y + 3) ∉ blkOf A := fun hm => by
        obtain ⟨cs, hc⟩ := own_blk OW7 hm
        exact Blk.ne_ hc b17 (by decide) rfl
      refine loop_turns (fun Tn a W => Turn g d X Y V Tn a W) 2 ?start ?step ?last
      case start => exact ⟨Y + 3, [], TF_intro rfl rfl, rfl, List.nodup_nil, b17, .inl rfl, Only.refl _ _, fun D hD => by cases hD⟩
      case step =>
        rintro Tn hT a0 W9 ⟨bt, ds, ⟨v, rfl⟩, hdl, hdn, hB, hbt, hO, hds⟩
        have kT : W9.cell? ⟨bt, 0, none⟩ = some (.int .i64 Tn) := by simpa using hB.cell 0
        have jT : (Tn : Int) < 2 := by omega
        have HDL := hide hdl
        have HDN := hide hdn
        have HDS := hide hds
        have HO := hide hO
        have HBT := hide hB
        have hWV := hO.size
        clear hdl hdn hds hO hB
        unfold TF
        gi_wp2
        have bN := Blk.new W9 3 #[.int .i64 0]
        have R7 := (RV.only HO.out (by simp; omega) (by simp; omega) (fun b hb => by have := hBl.out b hb; simp; omega)).only0 ((Only.refl [] W9).alloc (.cells #[.int .i64 0] 3))
        have X7 := (bX.only HO.out (by simp)).alloc (.cells #[.int .i64 0] 3)
        have Z7 := (bT.only HO.out (by simp)).alloc (.cells #[.int .i64 0] 3)
        have T7 := HBT.out.alloc (.cells #[.int .i64 0] 3)
        have O7 := HO.out.alloc (.cells #[.int .i64 0] 3)
        have D7 : ∀ D ∈ ds, V.heap.size ≤ D ∧ (W9.alloc (.cells #[.int .i64 0] 3)).heap[D]? = some (.deferred (some [])) := fun D hD => ⟨(HDS.out D hD).1, heap_keep_alloc _ (HDS.out D hD).2⟩
        have hbtW : bt < W9.heap.size := HBT.out.lt
        obtain ⟨b18, hb18⟩ : ∃ b18, W9.heap.size = b18 := ⟨_, rfl⟩
        have S7 : b18 + 1 = (W9.alloc (.cells #[.int .i64 0] 3)).heap.size := by rw [World.size_alloc, hb18]
        have HDlt : ∀ D ∈ ds, D < b18 := fun D hD => by rw [← hb18]; exact (Array.getElem?_eq_some_iff.1 (HDS.out D hD).2).1
        obtain ⟨W7, hW7⟩ : ∃ W7, W9.alloc (.cells #[.int .i64 0] 3) = W7 := ⟨_, rfl⟩
        rw [hW7] at bN R7 X7 Z7 T7 O7 D7 S7
        rw [hb18] at bN hbtW hWV
        rw [hb18, hW7]
        have N7 : Blk W7 b18 3 #[.int .i64 ((([] : List (Nat × Int)).length : Nat) : Int)] := bN
        clear hW7 bN HDS HO HBT kT hb18
        refine' wpIn_rangeFunc_ownH (F := Fence.wide) (n := 8) rfl (by decide) (gf := 46) (lb := #[.pointer (some ⟨Y + 1, 0, none⟩), .pointer (some ⟨Y + 1 + 1, 0, none⟩)]) rfl trivial (enters_of Try.func46 (by kernel_rfl) rfl)
          (all_stops 7 (Y + 1) (Y + 1 + 1) (b18 + 1) [b18] (by decide) t (by omega) (by simp; omega) (by simp; omega) (by simp; omega) (by simp; omega) (fun b hb => by have := hBl.out b hb; simp; omega) X7 Z7 R7)
          (fun h k => h.trans k) (fun W l o o' hl h hc hw => Kpx.putObj W l o o' (by omega)) (Below.refl _ _) (fun _ => rfl)
          (fun pre W => pre <+: allI T L t ∧ Blk W b18 3 #[.int .i64 pre.length] ∧ Blk W bt 3 #[.int .i64 Tn] ∧ Only [Y + 3] V W ∧ ∀ D ∈ ds, W.heap[D]? = some (.deferred (some [])))
          (fun c pre W => (c = .exit 4 ∧ Tn = 0 ∧ pre <+: allI T L t ∧ (pre.length : Int) = leave ∧ Blk W b18 3 #[.int .i64 pre.length] ∧ Blk W bt 3 #[.int .i64 Tn] ∧ Only [Y + 3] V W ∧ ∀ D ∈ ds, W.heap[D]? = some (.deferred (some []))) ∨ (c = .ret ∧ ¬ pre <+: allI T L t))
          (fun s A B row hs hg hr => by
            obtain ⟨h1, h2, h3, h4, h5⟩ := hs
            exact ⟨h1, blk_turn h2 hg (fun r e => (hr r e).2), blk_turn h3 hg (fun r e => (hr r e).2), h4.grown hg (fun k e => .inr (by have := (hr k e).1; omega)), fun D hD => defer_turn (h5 D hD) (by have := HDlt D hD; omega) hg hr⟩)
          (fun c s A B row hs hg hr => by
            rcases hs with ⟨e1, e2, h0, h1, h2, h3, h4, h5⟩ | h
            · exact .inl ⟨e1, e2, h0, h1, blk_turn h2 hg (fun r e => (hr r e).2), blk_turn h3 hg (fun r e => (hr r e).2), h4.grown hg (fun k e => .inr (by have := (hr k e).1; omega)), fun D hD => defer_turn (h5 D hD) (by have := HDlt D hD; omega) hg hr⟩
            · exact .inr h)
          ⟨List.nil_prefix, N7, T7, O7, fun D hD => (D7 D hD).2⟩ (fun x a' W => ∃ bz, (∃ v, a' = { tmps := TB g d X Y bt b18 bz v, defers := [] }) ∧ Blk W bz 36 #[.int .i64 (x.1 : Nat), .int .i64 x.2])
          (fun x a' s A B row hs hg hr => by obtain ⟨bz, hv, hz⟩ := hs; exact ⟨bz, hv, blk_turn hz hg (fun r e => (hr r e).2)⟩) ?assign ?body ?done ?stop
        case assign =>
          rintro l pre x W K ⟨h1, h2, h3, h4, h5⟩ hK
          gi_wp2
          have oo := (Only.refl [] W).alloc (.cells #[.int .i64 (x.1 : Nat), .int .i64 x.2] 36)
          have hlt := h2.lt
          exact hK _ _ (kf_only0 oo) (Kpx.only0 oo (by omega)) ⟨h1, h2.only oo (by simp), h3.only oo (by simp), h4.trans0 oo, fun D hD => heap_keep_alloc _ (h5 D hD)⟩ ⟨W.heap.size, TB_intro rfl rfl, Blk.new W 36 _⟩
        case body =>
          rintro l pre x a' W hl0 ⟨r0, hr0⟩ ⟨hpre, hb, hT', hO, hD⟩ ⟨bz, ⟨v, rfl⟩, hz⟩ hlt
          try dsimp only
          rw [hN] at hlt
          have c18 : W.cell? ⟨b18, 0, none⟩ = some (.int .i64 pre.length) := by simpa using hb.cell 0
          have cz0 : W.cell? ⟨bz, 0, none⟩ = some (.int .i64 (x.1 : Nat)) := hz.cell 0
          have cz1 : W.cell? ⟨bz, 1, none⟩ = some (.int .i64 x.2) := hz.cell 1
          have B6 := E6.only hO (by simp; omega)
          have c7 : W.cell? ⟨Y, 0, none⟩ = some (.slice A N cA) := (bW.only hO (by simp)).cell 0
          obtain ⟨y, hy⟩ : ∃ y, (allI T L t)[pre.length]? = some y := ⟨_, List.getElem?_eq_getElem (by rw [hN]; exact hlt)⟩
          obtain ⟨gA, rfl, q1, q2⟩ := GV_cell (own_only' OW7 hO (fun k hk => by intro hm; simp at hm; subst hm; exact hnA hk)) hy
          have j1 : decide ((N : Int) ≤ (pre.length : Int)) = false := by simp; omega
          have j1b : decide (N ≤ pre.length) = false := by simp; omega
          have j1c : decide ((pre.length : Int) ≥ (N : Int)) = false := by simp; omega
          have j2 : (pre.length : Int) < (N : Int) := by omega
          have j2b : pre.length < N := by omega
          have j0 : (0 : Int) ≤ (pre.length : Int) := by omega
          have w1 : IntKind.i64.wrap ((pre.length : Int) + 1) = (pre.length : Int) + 1 := IntWalk.i64_in _ (by omega)
          have c5 := (E5.only hO (by simp; omega)).cell 0
          have HPRE := hide hpre
          have HBN := hide hb
          have HTT := hide hT'
          have HO := hide hO
          have HDD := hide hD
          have HZZ := hide hz
          have HB6 := hide B6
          clear hpre hb hT' hO hD B6 hz
          have eqx := fun W => neq36 (x.1 : Int) (y.1 : Int) x.2 y.2 W
          unfold TB
          by_cases hxy : x = y
          · subst hxy
            simp only [BEq.rfl, Bool.and_self, Bool.not_true] at eqx
            have HPX := hide (prefix_snoc HPRE.out hy)
            clear hy
            gi_wp2
            refine region_quiet_r (by kernel_rfl) (by kernel_rfl) (by kernel_rfl) ?_
            repeat (gi_big_quiet_step (fail))
            refine wpQuietIn_nil ?_
            rintro _ ⟨nq, rfl⟩
            have oU : Only [] W (W.drewN nq) := (Only.refl [] W).drewN nq
            generalize W.drewN nq = U at oU ⊢
            have bU := HBN.out.only oU (by simp)
            have tU := HTT.out.only oU (by simp)
            have OU := HO.out.trans0 oU
            have dU := fun D hD => (oU.block D (Array.getElem?_eq_some_iff.1 (HDD.out D hD)).1 (by simp)).trans (HDD.out D hD)
            have c18 : U.cell? ⟨b18, 0, none⟩ = some (.int .i64 pre.length) := by simpa using bU.cell 0
            have f18 := bU.frozen 0
            have cT : U.cell? ⟨bt, 0, none⟩ = some (.int .i64 Tn) := by simpa using tU.cell 0
            have c5 : U.cell? ⟨X + 1, 0, none⟩ = some (.int .i64 leave) := by simpa using (E5.only OU (by simp; omega)).cell 0
            have b6U := HB6.out.only oU (by simp)
            have c6 : U.cell? ⟨X + 1 + 1, 0, none⟩ = some (.bool false) := by simpa using b6U.cell 0
            have f6 := b6U.frozen 0
            have KF := hide (kf_only0 (n := W7.heap.size) oU)
            have hUW := oU.size
            have KP := hide (Kpx.only0 (X := [b18]) (N := b18 + 1) oU (by have := HBN.out.lt; omega))
            have NN := hide (fun (z : Int) (hz : z = (pre.length : Int) + 1) => show Blk (U.setCell ⟨b18, 0, none⟩ (.int .i64 z)) b18 3 #[.int .i64 (((pre ++ [x]).length : Nat) : Int)] ∧ Blk (U.setCell ⟨b18, 0, none⟩ (.int .i64 z)) bt 3 #[.int .i64 Tn] ∧ Only [Y + 3] V (U.setCell ⟨b18, 0, none⟩ (.int .i64 z)) ∧ ∀ D ∈ ds, (U.setCell ⟨b18, 0, none⟩ (.int .i64 z)).heap[D]? = some (.deferred (some [])) by
              subst hz
              refine ⟨by simpa using bU.set_ 0 (.int .i64 ((pre.length : Int) + 1)), tU.far (p := ⟨b18, 0, none⟩) (by simp; omega) _, OU.trans ((Only.refl [b18] U).setCell (p := ⟨b18, 0, none⟩) (.inl (by simp)) _) (fun k hk => .inr (by simp at hk; omega)), fun D hD => defer_set (dU D hD)⟩)
            clear bU tU OU dU b6U oU
            have g18 : (U.setCell ⟨b18, 0, none⟩ (.int .i64 ((pre.length : Int) + 1))).cell? ⟨b18, 0, none⟩ = some (.int .i64 ((pre.length : Int) + 1)) := World.cell?_setCell_same _ _ _ c18
            have hbb : bt ≠ b18 := by omega
            have gT : (U.setCell ⟨b18, 0, none⟩ (.int .i64 ((pre.length : Int) + 1))).cell? ⟨bt, 0, none⟩ = some (.int .i64 Tn) := (World.cell?_setCell_other _ ⟨b18, 0, none⟩ ⟨bt, 0, none⟩ _ (by simp <;> omega)).trans cT
            have g5 : (U.setCell ⟨b18, 0, none⟩ (.int .i64 ((pre.length : Int) + 1))).cell? ⟨X + 1, 0, none⟩ = some (.int .i64 leave) := (World.cell?_setCell_other _ ⟨b18, 0, none⟩ ⟨X + 1, 0, none⟩ _ (by simp <;> omega)).trans c5
            by_cases hT0 : Tn = 0
            · have g0 : ((Tn : Int) == 0) = true := by simp [hT0]
              by_cases hlv : ((pre.length : Int) + 1) = leave
              · have gl : ((pre.length : Int) + 1 == leave) = true := by simp [hlv]
                have HLV := hide hlv
                have HT0 := hide hT0
                clear hlv hT0
                gi_wp2
                refine ⟨KF.out.trans (kf_set _ _ _ _), .inl ⟨rfl, HT0.out, HPX.out, ?_, NN.out _ rfl⟩⟩
                have := HLV.out
                push_cast
                simpa using this
              · have gl : ((pre.length : Int) + 1 == leave) = false := by simp [hlv]
                clear hlv hT0
                gi_wp2
                exact ⟨KF.out.trans (kf_set _ _ _ _), KP.out.trans (kpx_set _ _ _ (by simp)), HPX.out, NN.out _ rfl⟩
            · have g0 : ((Tn : Int) == 0) = false := by simp [hT0]
              clear hT0
              gi_wp2
              exact ⟨KF.out.trans (kf_set _ _ _ _), KP.out.trans (kpx_set _ _ _ (by simp)), HPX.out, NN.out _ rfl⟩
          · have hnp := hide (show ¬ (pre ++ [x] <+: allI T L t) from fun h => hxy (prefix_head h hy))
            have hb : ((x.1 : Int) == (y.1 : Int) && x.2 == y.2) = false := by
              rw [Bool.and_eq_false_iff, beq_eq_false_iff_ne, beq_eq_false_iff_ne]
              by_cases e : x.1 = y.1
              · exact .inr (fun e2 => hxy (Prod.ext e e2))
              · exact .inl (by omega)
            rw [hb] at eqx
            simp only [Bool.not_false] at eqx
            clear hy hb hxy
            gi_wp2
            refine region_quiet_r (by kernel_rfl) (by kernel_rfl) (by kernel_rfl) ?_
            repeat (gi_big_quiet_step (fail))
            refine wpQuietIn_nil ?_
            rintro _ ⟨nq, rfl⟩
            have oU : Only [] W (W.drewN nq) := (Only.refl [] W).drewN nq
            generalize W.drewN nq = U at oU ⊢
            have bU := HBN.out.only oU (by simp)
            have tU := HTT.out.only oU (by simp)
            have OU := HO.out.trans0 oU
            have dU := fun D hD => (oU.block D (Array.getElem?_eq_some_iff.1 (HDD.out D hD)).1 (by simp)).trans (HDD.out D hD)
            have c18 : U.cell? ⟨b18, 0, none⟩ = some (.int .i64 pre.length) := by simpa using bU.cell 0
            have f18 := bU.frozen 0
            have cT : U.cell? ⟨bt, 0, none⟩ = some (.int .i64 Tn) := by simpa using tU.cell 0
            have c5 : U.cell? ⟨X + 1, 0, none⟩ = some (.int .i64 leave) := by simpa using (E5.only OU (by simp; omega)).cell 0
            have b6U := HB6.out.only oU (by simp)
            have c6 : U.cell? ⟨X + 1 + 1, 0, none⟩ = some (.bool false) := by simpa using b6U.cell 0
            have f6 := b6U.frozen 0
            have KF := hide (kf_only0 (n := W7.heap.size) oU)
            have hUW := oU.size
            have KP := hide (Kpx.only0 (X := [b18]) (N := b18 + 1) oU (by have := HBN.out.lt; omega))
            clear bU tU OU dU b6U oU
            gi_wp2
            exact ⟨KF.out.trans (kf_set _ _ _ _), .inr ⟨rfl, hnp.out⟩⟩
        case done =>
          rintro D ys V1 hDa rfl ⟨-, hb, hT', hO, hD⟩ hK1
          rw [hN] at hb
          have c18 : V1.cell? ⟨b18, 0, none⟩ = some (.int .i64 N) := by simpa using hb.cell 0
          have cT : V1.cell? ⟨bt, 0, none⟩ = some (.int .i64 Tn) := by simpa using hT'.cell 0
          have c7 : V1.cell? ⟨Y, 0, none⟩ = some (.slice A N cA) := (bW.only hO (by simp)).cell 0
          have FIN := hide (fin_turn Y V Tn ds D V1 HDL.out HDN.out hO hD hK1 (fun D' h => (D7 D' h).1) (by omega) (fun h => by have := HDlt D h; omega))
          clear hb hT' hO hD
          rcases (show Tn = 0 ∨ Tn = 1 by omega) with hT0 | hT0
          · have g0 : ((Tn : Int) == 0) = true := by simp [hT0]
            have g1 : ((Tn : Int) == 1) = false := by simp [hT0]
            clear hT0
            gi_wp2
            exact ⟨V1.heap.size, D :: ds, TF_intro rfl rfl, FIN.out _ rfl⟩
          · have g0 : ((Tn : Int) == 0) = false := by simp [hT0]
            have g1 : ((Tn : Int) == 1) = true := by simp [hT0]
            clear hT0
            gi_wp2
            exact ⟨V1.heap.size, D :: ds, TF_intro rfl rfl, FIN.out _ rfl⟩
        case stop =>
          rintro D cc pre V1 hDb hpre hix hK1
          rcases hix with ⟨rfl, hT0, -, hlv, hb, hT', hO, hD⟩ | ⟨-, h⟩
          · obtain ⟨m, hm⟩ : ∃ m, pre.length = m := ⟨_, rfl⟩
            rw [hm] at hb hlv
            have c18 : V1.cell? ⟨b18, 0, none⟩ = some (.int .i64 m) := by simpa using hb.cell 0
            have cT : V1.cell? ⟨bt, 0, none⟩ = some (.int .i64 Tn) := by simpa using hT'.cell 0
            have c7 : V1.cell? ⟨Y, 0, none⟩ = some (.slice A N cA) := (bW.only hO (by simp)).cell 0
            have c5 : V1.cell? ⟨X + 1, 0, none⟩ = some (.int .i64 leave) := by simpa using (E5.only hO (by simp; omega)).cell 0
            have FIN := hide (fin_turn Y V Tn ds D V1 HDL.out HDN.out hO hD hK1 (fun D' h => (D7 D' h).1) (by omega) (fun h => by have := HDlt D h; omega))
            have g0 : ((Tn : Int) == 0) = true := by simp [hT0]
            have g1 : ((Tn : Int) == 1) = false := by simp [hT0]
            have gl : ((m : Int) == leave) = true := by simp [hlv]
            have gl2 : ((m : Int) != leave) = false := by simp [hlv]
            clear hb hT' hO hD hT0 hlv hm hpre
            by_cases hmN : m = N
            · have gm : ((m : Int) == (N : Int)) = true := by simp [hmN]
              have gm2 : ((m : Int) != (N : Int)) = false := by simp [hmN]
              clear hmN
              gi_wp2
              exact ⟨V1.heap.size, D :: ds, TF_intro rfl rfl, FIN.out _ rfl⟩
            · have gm : ((m : Int) == (N : Int)) = false := by simp; omega
              have gm2 : ((m : Int) != (N : Int)) = true := by simp; omega
              clear hmN
              gi_wp2
              exact ⟨V1.heap.size, D :: ds, TF_intro rfl rfl, FIN.out _ rfl⟩
          · exact absurd hpre h
      case last =>
        rintro a0 W9 Q2 ⟨bt, ds, ⟨v, rfl⟩, hdl, hdn, hB, hbt, hO, hds⟩
        obtain ⟨D1, D0, rfl⟩ : ∃ D1 D0, ds = [D1, D0] := by
          match ds, hdl with
          | [x, y], _ => exact ⟨x, y, rfl⟩
        have kT : W9.cell? ⟨bt, 0, none⟩ = some (.int .i64 2) := by simpa using hB.cell 0
        have B6 := E6.only hO (by simp; omega)
        have c6 : W9.cell? ⟨X + 1 + 1, 0, none⟩ = some (.bool false) := by simpa using B6.cell 0
        have f6 := B6.frozen 0
        obtain ⟨hv1, hd1⟩ := hds D1 (by simp)
        obtain ⟨hv0, hd0⟩ := hds D0 (by simp)
        have hne : D0 ≠ D1 := fun e => by simp [e] at hdn
        have OO := hO.mono (T := [Y + 3, X + 1 + 1]) (fun x hx => .inl (by simp at hx; simp [hx]))
        have OO := hide (OO.setCell (p := ⟨X + 1 + 1, 0, none⟩) (.inl (by simp)) (.bool true))
        have Y6 := B6.set_ 0 (.bool true)
        have y6 : (W9.setCell ⟨X + 1 + 1, 0, none⟩ (.bool true)).cell? ⟨X + 1 + 1, 0, none⟩ = some (.bool true) := by simpa using Y6.cell 0
        have qD1 := defer_set (p := ⟨X + 1 + 1, 0, none⟩) (u := .bool true) hd1
        have qD0 := defer_set (p := ⟨X + 1 + 1, 0, none⟩) (u := .bool true) hd0
        have OO := OO.out
        clear hO hB hds hdl hdn Y6 hd1 hd0
        unfold TF
        gi_wp2
        go_wp2_with fail
        generalize W9.setCell ⟨X + 1 + 1, 0, none⟩ (.bool true) = U at *
        refine ⟨by simp, .inl ⟨_, _, rfl, run_takeDeferred qD1, ?_⟩⟩
        replace y6 := cell_kept y6 (grownBy_putObj' _ D1 (.deferred none)) (fun r e => by cases e; exact ⟨_, qD1, rfl⟩)
        replace OO := OO.grown (grownBy_putObj' _ D1 (.deferred none)) (fun k e => by cases e; exact .inr hv1)
        replace qD0 : (U.putObj D1 (.deferred none)).heap[D0]? = some (.deferred (some [])) := (World.putObj_heap_other (by omega)).trans qD0
        generalize U.putObj D1 (.deferred none) = U2 at *
        refine ⟨by simp, .inl ⟨_, _, rfl, run_takeDeferred qD0, ?_⟩⟩
        replace y6 := cell_kept y6 (grownBy_putObj' _ D0 (.deferred none)) (fun r e => by cases e; exact ⟨_, qD0, rfl⟩)
        replace OO := OO.grown (grownBy_putObj' _ D0 (.deferred none)) (fun k e => by cases e; exact .inr hv0)
        generalize U2.putObj D0 (.deferred none) = U3 at *
        have OW2 := OV.out.trans OO (fun x hx => .inr (by simp at hx; omega))
        exact ⟨.bool true, by simp [results, Try.results16, Try.f16, go_sem, y6], rfl, OW2⟩

end
end Go.Proofs.Ytnmlcijkggfhmaa
