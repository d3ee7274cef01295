/- Ready lists: the walk of stands. Condition: the two lists lie. -/
import Derived.Test.YtlaeiknkabajkaaRd28
import Derived.BigQuiet
namespace Go.Proofs.Ytlaeiknkabajkaa
open Go.RowKit Go.Shelf Go.BigFrame
set_option linter.unusedVariables false
set_option linter.all false
set_option maxRecDepth 100000
attribute [local go_sem] Oper.semAt_some

/-- The worlds that a region may come to that turns nothing that lay. -/
structure Sub (W0 : World) where
  val : World
  ok : Only [] W0 val
instance (W0 : World) : Nonempty (Sub W0) := ⟨⟨W0, Only.refl [] W0⟩⟩
theorem wp_region_quiet_sub {P : Program} {id : Nat} {Q : Exit → Act → World → Prop} {a : Act} {w : World} {l : List Oper} (hm : P.follows .mixedOrders = true) (hB : Region.lexB .any l.toArray = true)
    (h : wpQuiet P l.toArray (fun w' => ∃ s : Sub w.drew, w' = s.val) (fun a' => ∀ w', (∃ s : Sub w.drew, w' = s.val) → Q .normal a' w') l a) : (Code.region id l.toArray true).wp P Q a w :=
  wp_region_quiet (C := fun w' => ∃ s : Sub w.drew, w' = s.val) hm hB ⟨⟨w.drew, Only.refl _ _⟩, rfl⟩ (by simpa using h)
theorem quiet_sub {P : Program} {f : FuncId} {args : Array Value} {W0 : World} {s : Sub W0} {v : Value} (h : Calls P f args s.val fun e w' => e = .returned v ∧ Only [] s.val w') : Calls P f args s.val fun e w'' => e = .returned v ∧ ∃ s' : Sub W0, w'' = s'.val :=
  h.mono fun e w' ⟨he, ho⟩ => ⟨he, ⟨w', s.ok.trans0 ho⟩, rfl⟩
theorem RL.prio_eq {w : World} {g : Nat} {q : Nat → List Nat} {st : Int} (h : RL w g q st) (t : Int) : (if 0 ≤ t ∧ t < 16 then (prioQ q t.toNat : Int) else 0) = (prioI q t : Int) := by
  have h0 := h.facts.1
  obtain ⟨s, prio, bits, _, hR⟩ := h
  by_cases h1 : 0 ≤ t ∧ t < 16
  · rw [if_pos h1]
    unfold prioI
    rw [if_pos h1.1]
  · rw [if_neg h1, prioI_none h0 (fun j _ _ v hv e => h1 ⟨by omega, by have := hR.lt j v hv; omega⟩)]
    rfl
theorem eq_nilFunc (f : Fn) (A B : Array Value) (W : World) : (binOp .eql 64 (.func f A B) .nilFunc).run Try.prog W = .ok (.bool false) W := by
  have : (Op.equalIn (9999 + 1) 64 (.func f A B) .nilFunc).run Try.prog W = .ok false W := by
    unfold Op.equalIn
    simp [run_underlying Try.underlying64]
  have h2 : (Op.equalIn 10000 64 (.func f A B) .nilFunc).run Try.prog W = .ok false W := this
  simp [binOp, Op.equal, Op.maxDepth, h2]
theorem prefix_snoc {α : Type} {pre l : List α} {x : α} (h : pre <+: l) (hx : l[pre.length]? = some x) : pre ++ [x] <+: l := by
  obtain ⟨r, rfl⟩ := h
  rw [List.getElem?_append_right (Nat.le_refl _), Nat.sub_self] at hx
  cases r with
  | nil => simp at hx
  | cons y r =>
    simp at hx
    subst hx
    exact ⟨r, by simp⟩
theorem prefix_head {α : Type} {pre l : List α} {x y : α} (h : pre ++ [x] <+: l) (hy : l[pre.length]? = some y) : x = y := by
  obtain ⟨r, rfl⟩ := h
  simp at hy
  exact hy
theorem own_blk62 {w : World} {base size n c : Nat} {e : TypeId} {A : Option Addr} {xs : List Value} (h : w.ownsRow base e size (.slice A n c) n xs) {k : Nat} (hk : k ∈ blkOf A) : ∃ cs, Blk w k e cs := by
  rcases A with _ | a
  · simp [blkOf] at hk
  · simp only [blkOf, List.mem_singleton] at hk
    subst hk
    rcases h.2 with ⟨hv, hn⟩ | ⟨g, cap, cur, hv, _, hg, _⟩
    · simp at hv
    · simp only [Value.slice.injEq, Option.some.injEq] at hv
      obtain ⟨rfl, _⟩ := hv
      exact ⟨_, hg⟩
/-- The third loop's frame. -/
def TF (g d b5 b6 b7 bx bt : Nat) (v : Nat → Value) : Array Value := #[.pointer (some ⟨g, 0, none⟩), .pointer (some ⟨d, 0, none⟩), v 2, v 3, v 4, .pointer (some ⟨b5, 0, none⟩), .pointer (some ⟨b6, 0, none⟩), .pointer (some ⟨b7, 0, none⟩), v 8, v 9, v 10, v 11, v 12, v 13, v 14, v 15, .func (.func 37) #[] #[.pointer (some ⟨bx, 0, none⟩)], .pointer (some ⟨bt, 0, none⟩), v 18, v 19, v 20, v 21, v 22, v 23, v 24, v 25, v 26, v 27, v 28, v 29, v 30, v 31, v 32, v 33, v 34, v 35, v 36, v 37, v 38, v 39, v 40, v 41, v 42, v 43, v 44, v 45, v 46, v 47, v 48, v 49, v 50, v 51, v 52, v 53, v 54, v 55, v 56, v 57, v 58, v 59, v 60, v 61, v 62, v 63, v 64, v 65, v 66, v 67, v 68, v 69, v 70, v 71, v 72, v 73, v 74, v 75, v 76, v 77, v 78, v 79, v 80, v 81, v 82, v 83, v 84, v 85, v 86, v 87, v 88, v 89, v 90, v 91, v 92, v 93, v 94, v 95, v 96, v 97, v 98, v 99, v 100, v 101, v 102, v 103, v 104, v 105, v 106, v 107, v 108, v 109, v 110, v 111, v 112, v 113, v 114, v 115, v 116, v 117, v 118, v 119, v 120, v 121, v 122, v 123, v 124, v 125, v 126, v 127, v 128, v 129, v 130, v 131, v 132, v 133, v 134, v 135, v 136, v 137, v 138, v 139, v 140, v 141, v 142, v 143, v 144, v 145, v 146, v 147, v 148, v 149, v 150, v 151, v 152, v 153, v 154, v 155, v 156, v 157, v 158, v 159, v 160]
theorem TF_intro {g d b5 b6 b7 bx bt : Nat} {tm : Array Value} {D D' : List Deferred} (hd : D = D') (h : tm = TF g d b5 b6 b7 bx bt (fun k => tm.getD k undef)) : ∃ v, ({ tmps := tm, defers := D } : Act) = { tmps := TF g d b5 b6 b7 bx bt v, defers := D' } := ⟨fun k => tm.getD k undef, by rw [← h, hd]⟩
/-- How the third loop stands between two turns. -/
def Turn (g d b5 b6 b7 bx : Nat) (V : World) (T : Nat) (a : Act) (W : World) : Prop := ∃ (bt : Nat) (ds : List Nat),
  (∃ v, a = { tmps := TF g d b5 b6 b7 bx bt v, defers := ds.map fun D => { target := .collected D, args := #[] } }) ∧
  ds.length = T ∧ ds.Nodup ∧ Blk W bt 3 #[.int .i64 (T : Int)] ∧ (bt = bx + 1 ∨ V.heap.size ≤ bt) ∧ Only [bx + 1] V W ∧ ∀ D ∈ ds, V.heap.size ≤ D ∧ W.heap[D]? = some (.deferred (some []))
theorem loop_turns {P : Program} {c : Code} {Q : Exit → Act → World → Prop} {a : Act} {w : World} {n : Nat} (I : Nat → Act → World → Prop) (N : Nat) (h0 : I 0 a w)
    (step : ∀ k, k < N → ∀ a w, I k a w → c.wpIn Fence.wide n P (fun e a' w' => e = .normal ∧ I (k + 1) a' w') a w) (last : ∀ a w (Q' : Act → World → Prop), I N a w → c.wpIn Fence.wide n P (Exit.then Q' Q) a w) : (Code.loop c).wpIn Fence.wide n P Q a w := by
  have key : ∀ j k a w, k + j = N → I k a w → Code.roundsIn Fence.wide n P c Q (j + 1) a w := by
    intro j
    induction j with
    | zero => intro k a w hk hI; rw [roundsIn_succ]; exact last a w _ ((show k = N by omega) ▸ hI)
    | succ j ih =>
      intro k a w hk hI
      rw [roundsIn_succ]
      refine wpIn_mono (step k (by omega) a w hI) ?_
      rintro e a' w' ⟨rfl, h⟩
      exact ih (k + 1) a' w' (by omega) h
  exact wpIn_loop_rounds (N + 1) (key N 0 a w (by omega) h0)
theorem defer_set {W : World} {D : Nat} {p : Addr} {u : Value} {ds : Option (List Deferred)} (h : W.heap[D]? = some (.deferred ds)) : (W.setCell p u).heap[D]? = some (.deferred ds) := (KeepsOthers.setCell W p u).same D _ h rfl
theorem defer_turn {W W' : World} {row : Option Nat} {D B : Nat} {o : Obj} (h : W.heap[D]? = some o) (hD : D < B) (hg : W.grownBy W' row) (hr : ∀ r, row = some r → B ≤ r ∧ ∃ o : Obj, W.heap[r]? = some o ∧ o.isCells = false) : W'.heap[D]? = some o :=
  (hg.block D (Array.getElem?_eq_some_iff.1 h).1 (fun e => by have := (hr D e.symm).1; omega)).trans h
theorem fin_turn (g d b5 b6 b7 bx : Nat) (V : World) (T : Nat) (ds : List Nat) (D : Nat) (V1 : World) (hl : ds.length = T) (hn : ds.Nodup) (hO : Only [bx + 1] V V1) (hD : ∀ D ∈ ds, V1.heap[D]? = some (.deferred (some []))) (hK : V1.heap[D]? = some (.deferred (some []))) (hge : ∀ D ∈ ds, V.heap.size ≤ D) (hge2 : V.heap.size ≤ D) (hnd : D ∉ ds) :
    ∀ (z : Int), z = (T : Int) + 1 → (D :: ds).length = T + 1 ∧ (D :: ds).Nodup ∧ Blk (V1.alloc (.cells #[.int .i64 z] 3)) V1.heap.size 3 #[.int .i64 ((T + 1 : Nat) : Int)] ∧ (V1.heap.size = bx + 1 ∨ V.heap.size ≤ V1.heap.size) ∧ Only [bx + 1] V (V1.alloc (.cells #[.int .i64 z] 3)) ∧ ∀ D' ∈ D :: ds, V.heap.size ≤ D' ∧ (V1.alloc (.cells #[.int .i64 z] 3)).heap[D']? = some (.deferred (some [])) := by
  rintro z rfl
  refine ⟨by simp [hl], List.nodup_cons.2 ⟨hnd, hn⟩, ?_, .inr hO.size, hO.alloc _, fun D' h => ?_⟩
  · push_cast
    exact Blk.new V1 3 #[.int .i64 ((T : Int) + 1)]
  · rcases List.mem_cons.1 h with rfl | h
    · exact ⟨hge2, heap_keep_alloc _ hK⟩
    · exact ⟨hge D' h, heap_keep_alloc _ (hD D' h)⟩
def firstL : List (Nat × Nat) → Int
  | [] => 0
  | x :: _ => (x.2 : Int)
set_option maxHeartbeats 8000000 in
theorem stands_any (g d : Nat) (q : Nat → List Nat) (st leave : Int) (hst : 0 ≤ st ∧ st < 100000) (w : World) (hR : RL w g q st) (hD : DQ w d q) :
    Calls Try.prog 11 #[ptr g, ptr d, .int .i64 leave] w fun e w' => e = .returned (.bool true) ∧ (∃ st', st ≤ st' ∧ st' ≤ st + 1 ∧ RL w' g q st') ∧ DQ w' d q ∧ Only [g] w w' := by
  obtain ⟨h0, hl, hn, ho⟩ := hR.facts
  have hlen := hR.len
  have HR := hide hR
  have HD := hide hD
  have hgd := hR.ne hD
  have RA := hide (fun W (o : Only [] w W) => rall_any d q h0 hlen W (hD.only o (NoRow.nil _) (by simp)))
  have FI := fun W (h : RL W g q st) => first_spec g q st (by omega) W h
  obtain ⟨bz, hbz⟩ : ∃ bz, decide (allQ q ≠ []) = bz := ⟨_, rfl⟩
  obtain ⟨fT, hfT⟩ : ∃ fT, firstT q = fT := ⟨_, rfl⟩
  rw [hbz, hfT] at FI
  have FI := hide FI
  have HBZ := hide hbz
  have HFT := hide hfT
  clear hbz hfT
  refine (callsIn_wide (n := 8)).1 ?_
  unfold ptr at RA FI ⊢
  refine callsIn_of_wp_marks Try.func11 rfl trivial ?_ rfl
  simp only [Try.ntmps11, List.size_toArray, List.length_cons, List.length_nil, Nat.reduceAdd, Nat.reduceSub, Array.replicate_succ, Array.replicate_zero, List.push_toArray, List.append_toArray, List.nil_append, List.cons_append]
  refine wpIn_wide.2 ?_
  go_wp2_with (first
    | (go_at_call 26; refine (RA.out _ (((Only.refl [] w).alloc _).alloc _)).mono ?_; rintro e w1 ⟨⟨A, c, rfl, own1⟩, o1⟩; have R1 := HR.out.only ((((Only.refl [] w).alloc (.cells #[.int .i64 leave] 3)).alloc (.cells #[.bool false] 4)).trans0 o1) (by simp); have R1' := hide (show RL (w1.alloc (.cells #[.slice A (allQ q).length c] 60)) g q st from R1.only ((Only.refl [] w1).alloc _) (by simp)); clear R1)
    | (go_at_call 13; refine (FI.out _ R1'.out).mono ?_; rintro e w2 ⟨he, ⟨st2, s1, s2, R2⟩, o2⟩; unfold firstE at he; subst he))
  have hs0 : w.heap.size + 2 ≤ w1.heap.size := by have := o1.size; simp at this; omega
  have hgw : g < w.heap.size := by obtain ⟨s, prio, bits, ⟨cs, hb, _⟩, _⟩ := hR; exact hb.lt
  have B5 := ((((Blk.new w 3 #[.int .i64 leave]).alloc (.cells #[.bool false] 4)).only o1 (by simp)).alloc (.cells #[.slice A (allQ q).length c] 60)).only o2 (by simp; omega)
  have B6 := (((Blk.new (w.alloc (.cells #[.int .i64 leave] 3)) 4 #[.bool false]).only o1 (by simp)).alloc (.cells #[.slice A (allQ q).length c] 60)).only o2 (by simp; omega)
  rw [World.size_alloc] at B6
  have B7 := (Blk.new w1 60 #[.slice A (allQ q).length c]).only o2 (by simp; omega)
  have hge := own_ge own1
  have own2 := own_only' (own_only' own1 ((Only.refl [] w1).alloc (.cells #[.slice A (allQ q).length c] 60)) (by simp)) o2 (fun k hk => by have := (hge k hk).1; simp at this; simp; omega)
  have O2 : Only [g] w w2 := (wide_only (S := [g]) (((((Only.refl [] w).alloc (.cells #[.int .i64 leave] 3)).alloc (.cells #[.bool false] 4)).trans0 o1).alloc (.cells #[.slice A (allQ q).length c] 60))).trans' o2
  have hs2 : w1.heap.size + 1 ≤ w2.heap.size := by have := o2.size; simpa using this
  obtain ⟨b7, hb7⟩ : ∃ b7, w1.heap.size = b7 := ⟨_, rfl⟩
  obtain ⟨b6, hb6⟩ : ∃ b6, w.heap.size + 1 = b6 := ⟨_, rfl⟩
  obtain ⟨b5, hb5⟩ : ∃ b5, w.heap.size = b5 := ⟨_, rfl⟩
  simp only [World.size_alloc] at own2
  rw [hb7] at B7 hs0 hs2 ⊢
  rw [hb6] at B6 ⊢
  rw [hb5] at B5 hgw ⊢
  have hw5 := hide hb5
  have hw6 := hide hb6
  have HO2 := hide O2
  have HB5 := hide B5
  have HB6 := hide B6
  have HB7 := hide B7
  have HW := hide own2
  have HS1 := hide s1
  have HS2 := hide s2
  have HR2 := hide R2
  clear R1' o1 o2 own1 O2 B5 B6 B7 own2 s1 s2 R2 hge hb7 hb6 hb5 RA FI hR hD
  have LN := hide (fun s : Sub w2.drew => len_any g q st2 (by omega) s.val ((show RL w2.drew g q st2 from HR2.out).only s.ok (by simp)))
  have hPS := Psrc.own HW.out
  have kw : ∀ V : Sub w2.drew, V.val.cell? ⟨b7, 0, none⟩ = some (.slice A (allQ q).length c) := fun V => V.ok.keep0 (show w2.drew.cell? ⟨b7, 0, none⟩ = _ from (HB7.out.cell 0).trans rfl)
  have PK := hide (show ∃ A : Option Addr, Blk w2 b7 60 #[.slice A (allQ q).length c] ∧ w2.ownsRow (w.heap.size + 1 + 1) 62 2 (.slice A (allQ q).length c) (allQ q).length (PN (allQ q)) from ⟨A, HB7.out, HW.out⟩)
  obtain ⟨L, hL⟩ : ∃ L, allQ q = L := ⟨_, rfl⟩
  have hfT : fT = firstL L := by rw [← HFT.out, ← hL]; rfl
  have hbz : bz = decide (L ≠ []) := by rw [← HBZ.out, hL]
  rw [hL] at hPS
  obtain ⟨N, hN⟩ : ∃ N, (allQ q).length = N := ⟨_, rfl⟩
  have hLN : L.length = N := by rw [← hL]; exact hN
  have HLN := hide hN
  rw [hN] at LN kw ⊢
  unfold ptr at LN
  clear hN hL
  refine wp_mono (Q := fun e a' W' => e = .normal ∧ (∃ u8 u9 u21 u22 u23 u24 u25 u26 u27 u28 u29 u30 u31 u32 u33 u34 u35 u36 u37 u38 u39 u40 u41 u42 u43 u44 u45 u46 u47 u48 u49 u50 u51 u52 u53 u54 u55 u56 u57 : Value, a' = { tmps := #[.pointer (some ⟨g, 0, none⟩), .pointer (some ⟨d, 0, none⟩), .int .i64 leave, undef, undef, .pointer (some ⟨b5, 0, none⟩), .pointer (some ⟨b6, 0, none⟩), .pointer (some ⟨b7, 0, none⟩), u8, u9, undef, undef, undef, undef, undef, undef, undef, undef, undef, undef, undef, u21, u22, u23, u24, u25, u26, u27, u28, u29, u30, u31, u32, u33, u34, u35, u36, u37, u38, u39, u40, u41, u42, u43, u44, u45, u46, u47, u48, u49, u50, u51, u52, u53, u54, u55, u56, u57, .bool false, undef, undef, undef, undef, undef, undef, undef, undef, undef, undef, undef, undef, undef, undef, undef, undef, undef, undef, undef, undef, undef, undef, undef, undef, undef, undef, undef, undef, undef, undef, undef, undef, undef, undef, undef, undef, undef, undef, undef, undef, undef, undef, undef, undef, undef, undef, undef, undef, undef, undef, undef, undef, undef, undef, undef, undef, undef, undef, undef, undef, undef, undef, undef, undef, undef, undef, undef, undef, undef, undef, undef, undef, undef, undef, undef, undef, undef, undef, undef, undef, undef, undef, undef, undef, undef, undef, undef, undef, undef, undef, undef, undef, undef, undef, undef, undef, undef, undef, undef, undef, undef, undef], defers := [] }) ∧ Only [] w2.drew W') ?regH ?regK
  case regH =>
    rcases L with _ | ⟨x, r⟩
    case nil =>
      obtain rfl : fT = 0 := hfT
      obtain rfl : bz = false := hbz
      have hN0 : N = 0 := by simpa using hLN.symm
      have dN : decide ((0 : Int) < (N : Int)) = false := by simp; omega
      have dN3 := decide_eq_false (show ¬ (0 < N) by omega)
      clear hN0 hLN
      refine wp_region_quiet_sub (by kernel_rfl) (by kernel_rfl) ?_
      repeat (go_big_quiet_step (first
        | (go_at_call 12; with_reducible exact quiet_sub (LN.out _))))
      refine wpQuiet_nil ?_
      rintro _ ⟨s3, rfl⟩
      exact ⟨rfl, ⟨_, _, _, _, _, _, _, _, _, _, _, _, _, _, _, _, _, _, _, _, _, _, _, _, _, _, _, _, _, _, _, _, _, _, _, _, _, _, _, rfl⟩, s3.ok⟩
    case cons =>
      obtain rfl : fT = (x.2 : Int) := hfT
      obtain rfl : bz = true := hbz
      obtain ⟨gA, hgA, hcA⟩ := hPS (by simp)
      obtain ⟨q1, q2⟩ := hcA 0 x rfl
      have kx : ∀ V : Sub w2.drew, V.val.cell? ⟨gA, 1, none⟩ = some (.int .i64 x.2) := fun V => V.ok.keep0 (show w2.drew.cell? ⟨gA, 1, none⟩ = _ from q2)
      subst hgA
      have hN0 : 0 < N := by rw [← hLN]; simp
      have dN : decide ((0 : Int) < (N : Int)) = true := by simp; omega
      have dN2 : (0 : Int) < (N : Int) := by omega
      have dN3 := decide_eq_true hN0
      clear hLN
      refine wp_region_quiet_sub (by kernel_rfl) (by kernel_rfl) ?_
      repeat (go_big_quiet_step (first
        | (go_at_call 12; with_reducible exact quiet_sub (LN.out _))))
      refine wpQuiet_nil ?_
      rintro _ ⟨s3, rfl⟩
      exact ⟨rfl, ⟨_, _, _, _, _, _, _, _, _, _, _, _, _, _, _, _, _, _, _, _, _, _, _, _, _, _, _, _, _, _, _, _, _, _, _, _, _, _, _, rfl⟩, s3.ok⟩

  case regK =>
    rintro e a' W3 ⟨rfl, ⟨u8, u9, u21, u22, u23, u24, u25, u26, u27, u28, u29, u30, u31, u32, u33, u34, u35, u36, u37, u38, u39, u40, u41, u42, u43, u44, u45, u46, u47, u48, u49, u50, u51, u52, u53, u54, u55, u56, u57, rfl⟩, oS⟩
    clear LN kw hPS HB7 HW hlen hfT hbz HFT HBZ hLN hs0 hs2
    have R3 := hide ((show RL w2.drew g q st2 from HR2.out).only oS (by simp))
    have O3 := hide ((show Only [g] w w2.drew from HO2.out.drew).trans0 oS)
    have C5 := hide ((show Blk w2.drew b5 3 #[.int .i64 leave] from HB5.out).only oS (by simp))
    have C6 := hide ((show Blk w2.drew b6 4 #[.bool false] from HB6.out).only oS (by simp))
    have PK3 := hide (show ∃ A : Option Addr, Blk W3 b7 60 #[.slice A (allQ q).length c] ∧ W3.ownsRow (w.heap.size + 1 + 1) 62 2 (.slice A (allQ q).length c) (allQ q).length (PN (allQ q)) from by
      obtain ⟨A, h1, h2⟩ := PK.out
      exact ⟨A, (show Blk w2.drew b7 60 _ from h1).only oS (by simp), own_only' (show w2.drew.ownsRow _ _ _ _ _ _ from h2) oS (by simp)⟩)
    have D3 := hide (HD.out.only O3.out HR.out.noRow (by simp; exact Ne.symm hgd))
    have hlen := R3.out.len
    clear PK HB5 HB6 HO2 HR2
    have LA := hide (fun W (o : Only [] W3 W) p => list_any g p q st2 (by omega) W (R3.out.only o (by simp)))
    have LB := hide (fun W (o : Only [] W3 W) p => rlist_any d q p h0 hl W (D3.out.only o (NoRow.nil _) (by simp)))
    have PA := fun W (o : Only [] W3 W) t => prio_spec g q st2 t W (R3.out.only o (by simp))
    have PB := hide (fun W (o : Only [] W3 W) t => rprio_any d q t h0 hl W (D3.out.only o (NoRow.nil _) (by simp)))
    simp only [R3.out.prio_eq] at PA
    have PA := hide PA
    have AL := hide (fun W => all_any g W)
    have SQ := hide (fun p => selQ_le p (allQ q))
    unfold ptr at LA LB PA PB AL
    clear h0 hl hn ho
    go_wp2_with fail
    go_loopw [10] (fun vp wr => ∃ k : Nat, k ≤ 35 ∧ vp = .int .i64 ((k : Int) - 1) ∧ Only [] W3 wr) (fun vp _ => 35 - (intOf vp + 1).toNat)
    case atStart => exact ⟨0, by omega, rfl, Only.refl _ _⟩
    case round =>
      obtain ⟨k, hk, rfl, hO⟩ := hrel
      have HO := hide hO
      clear hO
      by_cases hk2 : k < 35
      · have i1 : (k : Int) - 1 ≤ 33 := by omega
        obtain ⟨p, hp⟩ : ∃ p, (k : Int) - 1 = p := ⟨_, rfl⟩
        rw [hp] at i1 ⊢
        obtain ⟨l, hl⟩ : ∃ l, selQ p (allQ q) = l := ⟨_, rfl⟩
        have L1 := LA.out wr HO.out p
        have L2 := fun W (o : Only [] W3 W) => LB.out W o p
        have hll := SQ.out p
        rw [hl] at L1 hll
        simp only [hl] at L2
        have L1 := hide L1
        have L2 := hide L2
        clear hl
        go_wp2_with (first
          | (go_at_call 25; refine L1.out.mono ?_; rintro e w4 ⟨⟨A1, c1, rfl, own1⟩, o4⟩)
          | (go_at_call 28; refine (L2.out _ (HO.out.trans0 o4)).mono ?_; rintro e w5 ⟨⟨A2, c2, rfl, own2⟩, o5⟩)
          | (go_at_call 27; refine (ints_any A1 A2 c1 c2 l l _ ((Nsrc.own own1).only0 o5) (Nsrc.own own2) (by omega) (by omega)).mono ?_; rw [decide_eq_true rfl]; rintro e w6 ⟨rfl, k6, rfl⟩))
        go_roundw
        case rel => exact ⟨k + 1, by omega, by go_num, ((HO.out.trans0 o4).trans0 o5).drewN _⟩
        case measure => simp [intOf]; omega
      · have OL := hide HO.out
        obtain ⟨p, hp⟩ : ∃ p, (k : Int) - 1 = p := ⟨_, rfl⟩
        have i1 : ¬ (p ≤ 33) := by omega
        rw [hp]
        clear HO hp
        go_wp2_with fail
        go_loopw [11, 12, 13, 14, 15] (fun vt _ _ _ _ wr => ∃ k : Nat, k ≤ 18 ∧ vt = .int .i64 ((k : Int) - 1) ∧ Only [] W3 wr) (fun vt _ _ _ _ _ => 18 - (intOf vt + 1).toNat)
        case atStart => exact ⟨0, by omega, rfl, OL.out⟩
        case round =>
          clear OL
          obtain ⟨k, hk, rfl, hO⟩ := hrel
          have HO := hide hO
          clear hO
          by_cases hk2 : k < 18
          · have i2 : (k : Int) - 1 ≤ 16 := by omega
            obtain ⟨t, ht⟩ : ∃ t, (k : Int) - 1 = t := ⟨_, rfl⟩
            rw [ht] at i2 ⊢
            have P1 := PA.out wr HO.out t
            have P2 := PB.out wr HO.out t
            unfold prioE at P1 P2
            obtain ⟨v, hv⟩ : ∃ v, ((prioI q t : Nat) : Int) = v := ⟨_, rfl⟩
            rw [hv] at P1 P2
            obtain ⟨bb, hbb⟩ : ∃ bb, decide (v ≠ 0) = bb := ⟨_, rfl⟩
            rw [hbb] at P1 P2
            have P1 := hide P1
            have P2 := hide P2
            clear hv hbb
            go_wp2_with (first
              | (go_at_call 14; refine P1.out.mono ?_; rintro e w' ⟨rfl, hw⟩; obtain rfl := hw.symm; clear hw)
              | (go_at_call 29; refine P2.out.mono ?_; rintro e w' ⟨rfl, hw⟩; obtain rfl := hw.symm; clear hw))
            go_roundw
            case rel => exact ⟨k + 1, by omega, by go_num, HO.out⟩
            case measure => simp [intOf]; omega
          · have OL := hide HO.out
            obtain ⟨t, ht⟩ : ∃ t, (k : Int) - 1 = t := ⟨_, rfl⟩
            have i2 : ¬ (t ≤ 16) := by omega
            rw [ht]
            clear HO ht LA LB PA PB
            have hNF := fun A B W => eq_nilFunc (Fn.func 37) A B W
            go_wp2_with (go_at_call 30; refine (AL.out _).mono ?_; rintro e w' ⟨rfl, rfl⟩)
            clear hNF
            have bX := (Blk.new wr 23 #[ptr g]).alloc (.cells #[.int .i64 0] 3)
            have b17 := Blk.new (wr.alloc (.cells #[ptr g] 23)) 3 #[.int .i64 0]
            rw [World.size_alloc] at b17
            have oV := (OL.out.alloc (.cells #[ptr g] 23)).alloc (.cells #[.int .i64 0] 3)
            obtain ⟨bx, hbx⟩ : ∃ bx, wr.heap.size = bx := ⟨_, rfl⟩
            change Code.wp _ _ _ _ ((wr.alloc (.cells #[ptr g] 23)).alloc (.cells #[.int .i64 0] 3))
            have hsz : ((wr.alloc (.cells #[ptr g] 23)).alloc (.cells #[.int .i64 0] 3)).heap.size = bx + 2 := by simp [hbx]
            have hwb : w.heap.size + 2 ≤ bx := by have h1 := OL.out.size; have h2 := C6.out.lt; have h3 := hw6.out; omega
            obtain ⟨V, hV⟩ : ∃ V, (wr.alloc (.cells #[ptr g] 23)).alloc (.cells #[.int .i64 0] 3) = V := ⟨_, rfl⟩
            rw [hV, hbx] at bX b17
            rw [hV] at oV hsz
            rw [hV, hbx]
            have RV := R3.out.only oV (by simp)
            have E5 := C5.out.only oV (by simp)
            have E6 := C6.out.only oV (by simp)
            have OV := O3.out.trans0 oV
            obtain ⟨A9, e7, own7⟩ := PK3.out
            have E7 := e7.only oV (by simp)
            have OW7 := own_only' own7 oV (by simp)
            have DV := D3.out.only oV (NoRow.nil _) (by simp)
            clear OL R3 C5 C6 O3 PK3 D3 e7 own7 hV hbx oV AL SQ
            have b5lt := E5.lt
            have HH5 := hw5
            have hN := HLN.out
            clear hst hw5 hk hk2 i1 i2
            refine (wpIn_wide (n := 8)).1 ?_
            have hb7x : ¬ (b7 = bx + 1) := Blk.ne_ E7 b17 (by decide)
            have hnA : (bx + 1) ∉ blkOf A9 := fun hm => by
              obtain ⟨cs, hc⟩ := own_blk62 OW7 hm
              exact Blk.ne_ hc b17 (by decide) rfl
            have h5w := HH5.out
            have h6w := hw6.out
            refine loop_turns (fun T a W => Turn g d b5 b6 b7 bx V T a W) 2 ?start ?step ?last
            case start => exact ⟨bx + 1, [], TF_intro rfl rfl, rfl, List.nodup_nil, b17, .inl rfl, Only.refl _ _, fun D hD => by cases hD⟩
            case step =>
              rintro T hT a W ⟨bt, ds, ⟨v, rfl⟩, hdl, hdn, hB, hbt, hO, hds⟩
              have kT : W.cell? ⟨bt, 0, none⟩ = some (.int .i64 T) := by simpa using hB.cell 0
              have jT : (T : Int) < 2 := by omega
              have HDL := hide hdl
              have HDN := hide hdn
              have HDS := hide hds
              have HO := hide hO
              have HBT := hide hB
              have hWV := hO.size
              clear hdl hdn hds hO hB
              unfold TF
              gi_wp2
              have bN := Blk.new W 3 #[.int .i64 0]
              have R7 := (RV.only HO.out (by simp; omega)).only ((Only.refl [] W).alloc (.cells #[.int .i64 0] 3)) (by simp)
              have X7 := (bX.only HO.out (by simp)).alloc (.cells #[.int .i64 0] 3)
              have T7 := HBT.out.alloc (.cells #[.int .i64 0] 3)
              have O7 := HO.out.alloc (.cells #[.int .i64 0] 3)
              have D7 : ∀ D ∈ ds, V.heap.size ≤ D ∧ (W.alloc (.cells #[.int .i64 0] 3)).heap[D]? = some (.deferred (some [])) := fun D hD => ⟨(HDS.out D hD).1, heap_keep_alloc _ (HDS.out D hD).2⟩
              have hbtW : bt < W.heap.size := HBT.out.lt
              obtain ⟨b18, hb18⟩ : ∃ b18, W.heap.size = b18 := ⟨_, rfl⟩
              have S7 : b18 + 1 = (W.alloc (.cells #[.int .i64 0] 3)).heap.size := by rw [World.size_alloc, hb18]
              have HDlt : ∀ D ∈ ds, D < b18 := fun D hD => by rw [← hb18]; exact (Array.getElem?_eq_some_iff.1 (HDS.out D hD).2).1
              obtain ⟨W7, hW7⟩ : ∃ W7, W.alloc (.cells #[.int .i64 0] 3) = W7 := ⟨_, rfl⟩
              rw [hW7] at bN R7 X7 T7 O7 D7 S7
              rw [hb18] at bN hbtW hWV
              rw [hb18, hW7]
              have N7 : Blk W7 b18 3 #[.int .i64 ((([] : List (Nat × Nat)).length : Nat) : Int)] := bN
              clear hW7 bN HDS HO HBT kT hb18
              have hsV := hsz
              refine' wpIn_rangeFunc_ownG (F := Fence.wide) (n := 8) rfl (by decide) (gf := 37) (lb := #[.pointer (some ⟨bx, 0, none⟩)]) rfl trivial (enters_of Try.func37 (by kernel_rfl) rfl)
                (all_stops 7 g bx (by decide) q st2 W7 X7 R7) (fun h k => h.trans k) (fun W l o o' hl h hc hw => Kps.putObj W l o o' h hc) (Below.refl _ _) (fun _ => rfl)
                (fun pre W => pre <+: allQ q ∧ Blk W b18 3 #[.int .i64 pre.length] ∧ Blk W bt 3 #[.int .i64 T] ∧ Only [bx + 1] V W ∧ ∀ D ∈ ds, W.heap[D]? = some (.deferred (some [])))
                (fun c pre W => (c = .exit 6 ∧ T = 0 ∧ pre <+: allQ q ∧ (pre.length : Int) = leave ∧ Blk W b18 3 #[.int .i64 pre.length] ∧ Blk W bt 3 #[.int .i64 T] ∧ Only [bx + 1] V W ∧ ∀ D ∈ ds, W.heap[D]? = some (.deferred (some []))) ∨ (c = .ret ∧ ¬ pre <+: allQ q))
                (fun s A B row hs hg hr => by
                  obtain ⟨h1, h2, h3, h4, h5⟩ := hs
                  exact ⟨h1, blk_turn h2 hg (fun r e => (hr r e).2), blk_turn h3 hg (fun r e => (hr r e).2), h4.grown hg (fun k e => .inr (by have := (hr k e).1; omega)), fun D hD => defer_turn (h5 D hD) (by have := HDlt D hD; omega) hg hr⟩)
                (fun c s A B row hs hg hr => by
                  rcases hs with ⟨e1, e2, h0, h1, h2, h3, h4, h5⟩ | h
                  · exact .inl ⟨e1, e2, h0, h1, blk_turn h2 hg (fun r e => (hr r e).2), blk_turn h3 hg (fun r e => (hr r e).2), h4.grown hg (fun k e => .inr (by have := (hr k e).1; omega)), fun D hD => defer_turn (h5 D hD) (by have := HDlt D hD; omega) hg hr⟩
                  · exact .inr h)
                ⟨List.nil_prefix, N7, T7, O7, fun D hD => (D7 D hD).2⟩ _ ?assign ?body ?done ?stop
              case assign =>
                intro l x W K hK
                gi_wp2
                exact hK
              case body =>
                rintro l pre x W ⟨hpre, hb, hT', hO, hD⟩ hlt
                try dsimp only
                rw [hN] at hlt
                have c18 : W.cell? ⟨b18, 0, none⟩ = some (.int .i64 pre.length) := by simpa using hb.cell 0
                have f18 := hb.frozen 0
                have cT : W.cell? ⟨bt, 0, none⟩ = some (.int .i64 T) := by simpa using hT'.cell 0
                have c5 : W.cell? ⟨b5, 0, none⟩ = some (.int .i64 leave) := by simpa using (E5.only hO (by simp; omega)).cell 0
                have B6 := E6.only hO (by simp; omega)
                have c6 : W.cell? ⟨b6, 0, none⟩ = some (.bool false) := by simpa using B6.cell 0
                have f6 := B6.frozen 0
                have c7 : W.cell? ⟨b7, 0, none⟩ = some (.slice A9 N c) := by rw [← hN]; simpa using (E7.only hO (by simp; exact hb7x)).cell 0
                obtain ⟨gA, hgA, hcA⟩ := Psrc.own (own_only' OW7 hO (fun k hk => by intro hm; simp at hm; subst hm; exact hnA hk)) (by rw [hN]; omega)
                obtain ⟨y, hy⟩ : ∃ y, (allQ q)[pre.length]? = some y := ⟨_, List.getElem?_eq_getElem (by rw [hN]; exact hlt)⟩
                obtain ⟨q1, q2⟩ := hcA _ y hy
                subst hgA
                have j1 : decide ((N : Int) ≤ (pre.length : Int)) = false := by simp; omega
                have j2 : (pre.length : Int) < (N : Int) := by omega
                have j0 : (0 : Int) ≤ (pre.length : Int) := by omega
                have w1 : IntKind.i64.wrap ((pre.length : Int) + 1) = (pre.length : Int) + 1 := IntWalk.i64_in _ (by omega)
                have HPRE := hide hpre
                have HBN := hide hb
                have HTT := hide hT'
                have HO := hide hO
                have HDD := hide hD
                clear hpre hb hT' hO hD B6 hcA
                have NN := hide (fun (z : Int) (hz : z = (pre.length : Int) + 1) => show Blk (W.setCell ⟨b18, 0, none⟩ (.int .i64 z)) b18 3 #[.int .i64 (((pre ++ [x]).length : Nat) : Int)] ∧ Blk (W.setCell ⟨b18, 0, none⟩ (.int .i64 z)) bt 3 #[.int .i64 T] ∧ Only [bx + 1] V (W.setCell ⟨b18, 0, none⟩ (.int .i64 z)) ∧ ∀ D ∈ ds, (W.setCell ⟨b18, 0, none⟩ (.int .i64 z)).heap[D]? = some (.deferred (some [])) from by
                  subst hz
                  refine ⟨by simpa using HBN.out.set_ 0 (.int .i64 ((pre.length : Int) + 1)), HTT.out.far (p := ⟨b18, 0, none⟩) (by simp; omega) _, HO.out.trans ((Only.refl [b18] W).setCell (p := ⟨b18, 0, none⟩) (.inl (by simp)) _) (fun k hk => .inr (by simp at hk; omega)), fun D hD => defer_set (HDD.out D hD)⟩)
                by_cases hxy : x = y
                · subst hxy
                  have HPX := hide (prefix_snoc HPRE.out hy)
                  clear hy
                  by_cases hT0 : T = 0
                  · have g0 : ((T : Int) == 0) = true := by simp [hT0]
                    by_cases hlv : ((pre.length : Int) + 1) = leave
                    · have gl : ((pre.length : Int) + 1 == leave) = true := by simp [hlv]
                      have HLV := hide hlv
                      have HT0 := hide hT0
                      clear hlv hT0
                      gi_wp2
                      refine ⟨kf_set _ _ _ _, .inl ⟨rfl, HT0.out, HPX.out, ?_, NN.out _ rfl⟩⟩
                      have := HLV.out
                      push_cast
                      simpa using this
                    · have gl : ((pre.length : Int) + 1 == leave) = false := by simp [hlv]
                      clear hlv hT0
                      gi_wp2
                      exact ⟨kf_set _ _ _ _, kps_set _ _ _ (by simp; omega), HPX.out, NN.out _ rfl⟩
                  · have g0 : ((T : Int) == 0) = false := by simp [hT0]
                    clear hT0
                    gi_wp2
                    exact ⟨kf_set _ _ _ _, kps_set _ _ _ (by simp; omega), HPX.out, NN.out _ rfl⟩
                · have hnp := hide (show ¬ (pre ++ [x] <+: allQ q) from fun h => hxy (prefix_head h hy))
                  clear NN
                  obtain ⟨x1, x2⟩ := x
                  obtain ⟨y1, y2⟩ := y
                  dsimp only at q1 q2
                  clear hy
                  by_cases hx1 : x1 = y1
                  · subst hx1
                    have hx2 : x2 ≠ y2 := fun e => hxy (by rw [e])
                    have g2 : ((x2 : Int) == (y2 : Int)) = false := by simp; omega
                    have g3 : ((x2 : Int) != (y2 : Int)) = true := by simp; omega
                    clear hx2 hxy
                    gi_wp2
                    exact ⟨kf_set _ _ _ _, .inr ⟨rfl, hnp.out⟩⟩
                  · have g1 : ((x1 : Int) == (y1 : Int)) = false := by simp; omega
                    have g3 : ((x1 : Int) != (y1 : Int)) = true := by simp; omega
                    clear hxy
                    gi_wp2
                    exact ⟨kf_set _ _ _ _, .inr ⟨rfl, hnp.out⟩⟩
              case done =>
                rintro D ys V1 hDa rfl ⟨-, hb, hT', hO, hD⟩ hK1
                rw [hN] at hb
                have c18 : V1.cell? ⟨b18, 0, none⟩ = some (.int .i64 N) := by simpa using hb.cell 0
                have cT : V1.cell? ⟨bt, 0, none⟩ = some (.int .i64 T) := by simpa using hT'.cell 0
                have c7 : V1.cell? ⟨b7, 0, none⟩ = some (.slice A9 N c) := by rw [← hN]; simpa using (E7.only hO (by simp; exact hb7x)).cell 0
                have FIN := hide (fin_turn g d b5 b6 b7 bx V T ds D V1 HDL.out HDN.out hO hD hK1 (fun D' h => (D7 D' h).1) (by omega) (fun h => by have := HDlt D h; omega))
                clear hb hT' hO hD
                rcases (show T = 0 ∨ T = 1 by omega) with hT0 | hT0
                · have g0 : ((T : Int) == 0) = true := by simp [hT0]
                  have g1 : ((T : Int) == 1) = false := by simp [hT0]
                  clear hT0
                  gi_wp2
                  exact ⟨V1.heap.size, D :: ds, TF_intro rfl rfl, FIN.out _ rfl⟩
                · have g0 : ((T : Int) == 0) = false := by simp [hT0]
                  have g1 : ((T : Int) == 1) = true := by simp [hT0]
                  clear hT0
                  gi_wp2
                  exact ⟨V1.heap.size, D :: ds, TF_intro rfl rfl, FIN.out _ rfl⟩
              case stop =>
                rintro D cc pre V1 hDb hpre hix hK1
                rcases hix with ⟨rfl, hT0, -, hlv, hb, hT', hO, hD⟩ | ⟨-, h⟩
                · obtain ⟨m, hm⟩ : ∃ m, pre.length = m := ⟨_, rfl⟩
                  rw [hm] at hb hlv
                  have c18 : V1.cell? ⟨b18, 0, none⟩ = some (.int .i64 m) := by simpa using hb.cell 0
                  have cT : V1.cell? ⟨bt, 0, none⟩ = some (.int .i64 T) := by simpa using hT'.cell 0
                  have c7 : V1.cell? ⟨b7, 0, none⟩ = some (.slice A9 N c) := by rw [← hN]; simpa using (E7.only hO (by simp; exact hb7x)).cell 0
                  have c5 : V1.cell? ⟨b5, 0, none⟩ = some (.int .i64 leave) := by simpa using (E5.only hO (by simp; omega)).cell 0
                  have FIN := hide (fin_turn g d b5 b6 b7 bx V T ds D V1 HDL.out HDN.out hO hD hK1 (fun D' h => (D7 D' h).1) (by omega) (fun h => by have := HDlt D h; omega))
                  have g0 : ((T : Int) == 0) = true := by simp [hT0]
                  have g1 : ((T : Int) == 1) = false := by simp [hT0]
                  have gl : ((m : Int) == leave) = true := by simp [hlv]
                  have gl2 : ((m : Int) != leave) = false := by simp [hlv]
                  clear hb hT' hO hD hT0 hlv hm hpre
                  by_cases hmN : m = N
                  · have gm : ((m : Int) == (N : Int)) = true := by simp [hmN]
                    have gm2 : ((m : Int) != (N : Int)) = false := by simp [hmN]
                    clear hmN
                    gi_wp2
                    exact ⟨V1.heap.size, D :: ds, TF_intro rfl rfl, FIN.out _ rfl⟩
                  · have gm : ((m : Int) == (N : Int)) = false := by simp; omega
                    have gm2 : ((m : Int) != (N : Int)) = true := by simp; omega
                    clear hmN
                    gi_wp2
                    exact ⟨V1.heap.size, D :: ds, TF_intro rfl rfl, FIN.out _ rfl⟩
                · exact absurd hpre h
            case last =>
              rintro a W Q2 ⟨bt, ds, ⟨v, rfl⟩, hdl, hdn, hB, hbt, hO, hds⟩
              obtain ⟨D1, D0, rfl⟩ : ∃ D1 D0, ds = [D1, D0] := by
                match ds, hdl with
                | [x, y], _ => exact ⟨x, y, rfl⟩
              have kT : W.cell? ⟨bt, 0, none⟩ = some (.int .i64 2) := by simpa using hB.cell 0
              have B6 := E6.only hO (by simp; omega)
              have c6 : W.cell? ⟨b6, 0, none⟩ = some (.bool false) := by simpa using B6.cell 0
              have f6 := B6.frozen 0
              obtain ⟨hv1, hd1⟩ := hds D1 (by simp)
              obtain ⟨hv0, hd0⟩ := hds D0 (by simp)
              have hne : D0 ≠ D1 := fun e => by simp [e] at hdn
              have OO := hO.mono (T := [bx + 1, b6]) (fun x hx => .inl (by simp at hx; simp [hx]))
              have OO := hide (OO.setCell (p := ⟨b6, 0, none⟩) (.inl (by simp)) (.bool true))
              have Y6 := B6.set_ 0 (.bool true)
              have y6 : (W.setCell ⟨b6, 0, none⟩ (.bool true)).cell? ⟨b6, 0, none⟩ = some (.bool true) := by simpa using Y6.cell 0
              have qD1 := defer_set (p := ⟨b6, 0, none⟩) (u := .bool true) hd1
              have qD0 := defer_set (p := ⟨b6, 0, none⟩) (u := .bool true) hd0
              have OO := OO.out
              clear hO hB hds hdl hdn Y6 hd1 hd0
              unfold TF
              gi_wp2
              go_wp2_with fail
              generalize W.setCell ⟨b6, 0, none⟩ (.bool true) = U at *
              refine ⟨by simp, .inl ⟨_, _, rfl, run_takeDeferred qD1, ?_⟩⟩
              replace y6 := cell_kept y6 (grownBy_putObj' _ D1 (.deferred none)) (fun r e => by cases e; exact ⟨_, qD1, rfl⟩)
              replace OO := OO.grown (grownBy_putObj' _ D1 (.deferred none)) (fun k e => by cases e; exact .inr hv1)
              replace qD0 : (U.putObj D1 (.deferred none)).heap[D0]? = some (.deferred (some [])) := (World.putObj_heap_other (by omega)).trans qD0
              generalize U.putObj D1 (.deferred none) = U2 at *
              refine ⟨by simp, .inl ⟨_, _, rfl, run_takeDeferred qD0, ?_⟩⟩
              replace y6 := cell_kept y6 (grownBy_putObj' _ D0 (.deferred none)) (fun r e => by cases e; exact ⟨_, qD0, rfl⟩)
              replace OO := OO.grown (grownBy_putObj' _ D0 (.deferred none)) (fun k e => by cases e; exact .inr hv0)
              generalize U2.putObj D0 (.deferred none) = U3 at *
              have OW := OV.trans OO (fun x hx => .inr (by simp at hx; omega))
              exact ⟨.bool true, by simp [results, Try.results11, Try.f11, go_sem, y6], rfl, ⟨st2, HS1.out, HS2.out, RV.only OO (by simp; omega)⟩, HD.out.only OW HR.out.noRow (by simp; exact Ne.symm hgd), OW⟩
end Go.Proofs.Ytlaeiknkabajkaa
