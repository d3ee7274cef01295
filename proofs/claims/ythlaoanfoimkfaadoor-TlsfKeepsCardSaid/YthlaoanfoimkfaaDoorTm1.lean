/- Tlsf: the law's blocks. Condition: a heap in memory; a row of its blocks. -/
import Derived.Test.YthlaoanfoimkfaaDoorTlC
import Derived.Test.YthlaoanfoimkfaaDoorTkA
namespace Go.Proofs.YthlaoanfoimkfaaDoor
open Go.RowKit Go.Shelf Go.BigFrame
set_option linter.unusedVariables false
set_option linter.all false
set_option maxRecDepth 100000
attribute [local go_sem] Oper.semAt_some
theorem wide_fn' (f : FuncId) : Fence.wide.fn f = True := rfl
attribute [local go_sem] wide_fn'
attribute [local simp] wide_fn'
/-- The marks that ranges leave for the function's end. -/
def marks (Ds : List Nat) : List Deferred := Ds.map fun D => { target := .collected D, args := #[] }
theorem marks_cons (D : Nat) (Ds : List Nat) : ({ target := .collected D, args := #[] } : Deferred) :: marks Ds = marks (D :: Ds) := rfl
theorem leaves_marks {F : Fence} {n : Nat} {P : Program} {fn : Func} {tmps : Array Value} {R : Ending → World → Prop} {u : FrameMode} (hu : u ≠ .run) : ∀ (Ds : List Nat) (w : World), Ds.Nodup → (∀ D ∈ Ds, w.heap[D]? = some (.deferred (some []))) →
    (∀ w', Only Ds w w' → LeavesIn F n P fn tmps R [] u w') → LeavesInM F n P fn tmps R (marks Ds) u w
  | [], w, _, _, h => h w (Only.refl _ _)
  | D :: Ds, w, hn, hd, h => by
    have hn2 := List.nodup_cons.1 hn
    refine ⟨hu, .inl ⟨D, _, rfl, run_takeDeferred (hd D (by simp)), leaves_marks hu Ds _ hn2.2 (fun E hE => ?_) (fun w' o => h w' ?_)⟩⟩
    · exact (World.putObj_heap_other (by rintro rfl; exact hn2.1 hE)).trans (hd E (by simp [hE]))
    · exact ((only_put w D (.deferred none)).mono (fun x hx => .inl (by simp at hx; simp [hx]))).trans o (fun x hx => .inl (by simp [hx]))
theorem eq_nilFunc (f : Fn) (A B : Array Value) (W : World) : (binOp .eql 87 (.func f A B) .nilFunc).run Tryd.prog W = .ok (.bool false) W := by
  have : (Op.equalIn (9999 + 1) 87 (.func f A B) .nilFunc).run Tryd.prog W = .ok false W := by
    unfold Op.equalIn
    simp [run_underlying Tryd.underlying87]
  have h2 : (Op.equalIn 10000 87 (.func f A B) .nilFunc).run Tryd.prog W = .ok false W := this
  simp [binOp, Op.equal, Op.maxDepth, h2]
/-- The frame of blocks. -/
def BF (h q c s tb nB : Nat) (leave : Int) (v : Nat → Value) : Array Value := #[.pointer (some ⟨h, 0, none⟩), .slice (some ⟨q, 0, none⟩) nB c, .int .i64 leave, undef, .pointer (some ⟨s, 0, none⟩), .pointer (some ⟨s + 1, 0, none⟩), .pointer (some ⟨s + 1 + 1, 0, none⟩), .func (.func 79) #[] #[.pointer (some ⟨s + 1 + 1 + 1, 0, none⟩)], .pointer (some ⟨tb, 0, none⟩), v 9, v 10, v 11, v 12, v 13, v 14, v 15, v 16, v 17, v 18, v 19, v 20, v 21, v 22, v 23, v 24, v 25, v 26, v 27, v 28, v 29, v 30, v 31, v 32, v 33, v 34, v 35, v 36, v 37, v 38, v 39, v 40, v 41, v 42, v 43, v 44, v 45, v 46, v 47, v 48, v 49, v 50, v 51, v 52, v 53, v 54, v 55, v 56, v 57, v 58, v 59, v 60, v 61, v 62, v 63, v 64, v 65]
theorem BF_intro {h q c s tb nB : Nat} {leave : Int} {tm : Array Value} {ds : List Deferred} (e : tm = BF h q c s tb nB leave (fun k => tm.getD k undef)) : ∃ v, ({ tmps := tm, defers := ds } : Act) = { tmps := BF h q c s tb nB leave v, defers := ds } := ⟨fun k => tm.getD k undef, by rw [← e]⟩
/-- The state at the head of a turn. -/
structure BS (w1 : World) (h g gb cap mb N : Nat) (m : Nat → Nat) (t tb : Nat) (Ds : List Nat) (W : World) : Prop where
  only : Only [g] w1 W
  me : Me W h g gb cap mb N m
  tc : Blk W tb 3 #[.int .i64 (t : Nat)]
  tl : w1.heap.size ≤ tb
  nd : Ds.Nodup
  ds : ∀ D ∈ Ds, w1.heap.size ≤ D ∧ W.heap[D]? = some (.deferred (some []))
/-- How many turns are left. -/
def turnsLeft (a : Act) (W : World) : Nat := match a.tmps[8]? with
  | some (Value.pointer (some ad)) => 2 - (intOf ((W.cell? ad).getD undef)).toNat
  | _ => 0
theorem turns_at {h q c s tb nB : Nat} {leave : Int} {v : Nat → Value} {ds : List Deferred} {W : World} {t : Nat} (hb : W.cell? ⟨tb, 0, none⟩ = some (.int .i64 (t : Nat))) : turnsLeft { tmps := BF h q c s tb nB leave v, defers := ds } W = 2 - t := by
  show 2 - (intOf ((W.cell? ⟨tb, 0, none⟩).getD undef)).toNat = 2 - t
  rw [hb]
  simp [intOf]
theorem neq42 (a b : Nat) (f : Bool) (W : World) : (binOp .neq 42 (.agg #[.int .i64 a, .int .i64 b, .bool f]) (.agg #[.int .i64 a, .int .i64 b, .bool f])).run Tryd.prog W = .ok (.bool false) W := by
  have h3 : ∀ (x y : Int) (W : World), (Op.equalIn 9999 3 (.int .i64 x) (.int .i64 y)).run Tryd.prog W = .ok (x == y) W := fun x y W => run_equalIn_int W 9998 3 .i64 .i64 x y Tryd.underlying3
  have h4 : ∀ (x : Bool) (W : World), (Op.equalIn (9998 + 1) 4 (.bool x) (.bool x)).run Tryd.prog W = .ok true W := fun x W => by
    unfold Op.equalIn
    simp [run_underlying Tryd.underlying4]
  have h4' : ∀ (x : Bool) (W : World), (Op.equalIn 9999 4 (.bool x) (.bool x)).run Tryd.prog W = .ok true W := h4
  have : (Op.equalIn (9999 + 1) 42 (.agg #[.int .i64 a, .int .i64 b, .bool f]) (.agg #[.int .i64 a, .int .i64 b, .bool f])).run Tryd.prog W = .ok true W := by
    unfold Op.equalIn
    simp only [Sem.run_bind, run_underlying Tryd.underlying42, Result.andThen_ok]
    simp [Std.Legacy.Range.forIn_eq_forIn_range', Std.Legacy.Range.size, List.range', part, go_sem, h3, h4', Tryd.sizeOf3, Tryd.sizeOf4]
  have h2 : (Op.equalIn 10000 42 (.agg #[.int .i64 a, .int .i64 b, .bool f]) (.agg #[.int .i64 a, .int .i64 b, .bool f])).run Tryd.prog W = .ok true W := this
  simp [binOp, Op.equal, Op.maxDepth, h2]
section
variable {w w' : World} {h g gb cap mb N q c : Nat} {m : Nat → Nat} {B : List Bk} {L : Nat → List Nat} {X Y Z : World}
set_option maxHeartbeats 8000000 in
theorem blocks_any (H : Hp w h g gb cap mb N B L m) (hq : BRow w q B) (hqb : q ≠ g ∧ q ≠ gb) (hc : B.length ≤ c ∧ c ≤ 9223372036854775807) (leave : Int) : Calls Tryd.prog 17 #[.pointer (some ⟨h, 0, none⟩), .slice (some ⟨q, 0, none⟩) B.length c, .int .i64 leave] w fun e w' => e = .returned (.bool true) ∧ Only [g] w w' ∧ Hp w' h g gb cap mb N B L m := by
  have HH := Lib.hid H
  have hlt := H.lt
  have hne := H.ne
  have hbl := H.inv.blen
  have hqs : q < w.heap.size := by obtain ⟨cs, hb, _⟩ := hq; exact hb.lt
  clear H
  obtain ⟨nB, hnB⟩ : ∃ nB, B.length = nB := ⟨_, rfl⟩
  rw [hnB] at hbl hc ⊢
  refine (callsIn_wide (n := 8)).1 ?_
  refine callsIn_of_wp_marks Tryd.func17 rfl trivial ?_ rfl
  simp only [Tryd.ntmps17, List.size_toArray, List.length_cons, List.length_nil, Nat.reduceAdd, Nat.reduceSub, Array.replicate_succ, Array.replicate_zero, List.push_toArray, List.append_toArray, List.nil_append, List.cons_append]
  refine wpIn_wide.2 ?_
  have hnf := fun A B W => eq_nilFunc (Fn.func 79) A B W
  go_wp2_with (first
    | (go_at_call 53; refine (all_any h _).mono ?_; rintro e w1 ⟨rfl, o1, b1, hs1⟩))
  rename_i Kz hKz
  clear hnf
  obtain ⟨s, hs⟩ : ∃ s, w.heap.size = s := ⟨_, rfl⟩
  have D0 := (((Blk.new w 36 #[.slice (some ⟨q, 0, none⟩) nB c]).alloc (.cells #[.int .i64 leave] 3)).alloc (.cells #[.bool false] 4)).only o1 (by simp)
  have D1 := ((Blk.new (w.alloc (.cells #[.slice (some ⟨q, 0, none⟩) nB c] 36)) 3 #[.int .i64 leave]).alloc (.cells #[.bool false] 4)).only o1 (by simp)
  have D2 := (Blk.new ((w.alloc (.cells #[.slice (some ⟨q, 0, none⟩) nB c] 36)).alloc (.cells #[.int .i64 leave] 3)) 4 #[.bool false]).only o1 (by simp)
  have O0 := (((Only.refl [] w).alloc (.cells #[.slice (some ⟨q, 0, none⟩) nB c] 36)).alloc (.cells #[.int .i64 leave] 3)).alloc (.cells #[.bool false] 4) |>.trans0 o1
  have D3 := Blk.new w1 3 #[.int .i64 0]
  simp only [World.size_alloc, hs] at D0 D1 D2 b1 hs1 O0
  rw [hs] at hlt hqs
  rw [hs1] at D3
  have hS0 : BS w1 h g gb cap mb N m 0 (s + 1 + 1 + 1 + 1) [] (w1.alloc (.cells #[.int .i64 0] 3)) := ⟨(Only.refl [g] w1).alloc _, (HH.out.me.only0 O0).only0 ((Only.refl [] w1).alloc _), D3, by omega, List.nodup_nil, by simp⟩
  have HS0 := Lib.hid hS0
  simp only [hs, World.size_alloc, hs1]
  clear hS0 D3 o1
  have HD0 := Lib.hid D0
  have HD1 := Lib.hid D1
  have HD2 := Lib.hid D2
  have HB1 := Lib.hid b1
  have HO0 := Lib.hid O0
  have HQ := Lib.hid hq
  clear D0 D1 D2 b1 O0 hq
  refine (wpIn_wide (n := 8)).1 ?_
  obtain ⟨IV, hIi, hIe⟩ : ∃ IV : Act → World → Prop, (∀ tm Ds W t tb, tm = BF h q c s tb nB leave (fun k => tm.getD k undef) → t ≤ 2 → BS w1 h g gb cap mb N m t tb Ds W → IV { tmps := tm, defers := marks Ds } W) ∧
      (∀ a W, IV a W → ∃ (t tb : Nat) (v : Nat → Value) (Ds : List Nat), a = { tmps := BF h q c s tb nB leave v, defers := marks Ds } ∧ t ≤ 2 ∧ Hid (BS w1 h g gb cap mb N m t tb Ds W)) :=
    ⟨fun a W => ∃ (t tb : Nat) (v : Nat → Value) (Ds : List Nat), a = { tmps := BF h q c s tb nB leave v, defers := marks Ds } ∧ t ≤ 2 ∧ Hid (BS w1 h g gb cap mb N m t tb Ds W), fun tm Ds W t tb e ht hb => (BF_intro (ds := marks Ds) e).elim fun v e => ⟨t, tb, v, Ds, e, ht, Lib.hid hb⟩, fun a W q => q⟩
  have HII := Lib.hid hIi
  clear hIi
  refine wpIn_loop IV turnsLeft (HII.out _ [] _ 0 _ rfl (by omega) HS0.out) ?_
  · intro a W hiv
    obtain ⟨t, tb, v, Ds, rfl, ht, hst⟩ := hIe a W hiv
    clear hIe hiv HS0
    rw [turns_at (by simpa using hst.out.tc.cell 0)]
    have htl := hst.out.tl
    have hWs := hst.out.only.size
    have kt0 : W.cell? ⟨tb, 0, none⟩ = some (.int .i64 (t : Nat)) := by simpa using hst.out.tc.cell 0
    unfold BF
    rcases (by omega : t = 0 ∨ t = 1 ∨ t = 2) with rfl | rfl | rfl
    · -- turn 0
      have hlt2 : (0 : Int) < 2 := by omega
      gi_wp2
      rename_i K hK
      obtain ⟨nb, hnb⟩ : ∃ nb, W.heap.size = nb := ⟨_, rfl⟩
      obtain ⟨W0, hW0⟩ : ∃ W0, W.alloc (.cells #[.int .i64 0] 3) = W0 := ⟨_, rfl⟩
      have oW0 : Only [] W W0 := hW0 ▸ (Only.refl [] W).alloc _
      have bn : Blk W0 nb 3 #[.int .i64 (0 : Nat)] := by rw [← hW0, ← hnb]; exact Blk.new W 3 #[.int .i64 0]
      have hW0s : W0.heap.size = nb + 1 := by rw [← hW0, World.size_alloc, hnb]
      rw [hnb]
      try rw [hW0]
      have M0 := hst.out.me.only0 oW0
      have O1 : Only [g] w1 W0 := hst.out.only.trans0 oW0
      have bt0 := hst.out.tc.only oW0 (by simp)
      have hnd := hst.out.nd
      have hds : ∀ D ∈ Ds, w1.heap.size ≤ D ∧ D < nb ∧ W0.heap[D]? = some (.deferred (some [])) := fun D hD => by
        obtain ⟨a1, a2⟩ := hst.out.ds D hD
        have a3 := (Array.getElem?_eq_some_iff.1 a2).1
        exact ⟨a1, by omega, (oW0.block D a3 (by simp)).trans a2⟩
      have htn : tb < nb := by have := hst.out.tc.lt; omega
      have HDS := Lib.hid hds
      have BT0 := Lib.hid bt0
      have HO1 := Lib.hid O1
      have ba0 := HB1.out.only O1 (by simp; omega)
      have ST := all_stops (w := W0) 7 (by decide) HH.out.inv HH.out.all M0 ba0
      have REST : ∀ (D : Nat) (V1 : World) (nn : Nat), nb < D → V1.heap[D]? = some (.deferred (some [])) → Only [g, nb] W0 V1 → Me V1 h g gb cap mb N m → Blk V1 nb 3 #[.int .i64 (nn : Nat)] → (nn = nB ∨ (nn : Int) = leave) → K { tmps := #[.pointer (some ⟨h, 0, none⟩), .slice (some ⟨q, 0, none⟩) nB c, .int .i64 leave, undef, .pointer (some ⟨s, 0, none⟩), .pointer (some ⟨s + 1, 0, none⟩), .pointer (some ⟨s + 1 + 1, 0, none⟩), .func (.func 79) #[] #[.pointer (some ⟨s + 1 + 1 + 1, 0, none⟩)], .pointer (some ⟨tb, 0, none⟩), .pointer (some ⟨nb, 0, none⟩), v 10, v 11, v 12, v 13, v 14, .int .i64 0, .bool true, v 17, v 18, .func (.func 79) #[] #[.pointer (some ⟨s + 1 + 1 + 1, 0, none⟩)], v 20, v 21, v 22, v 23, v 24, v 25, v 26, v 27, v 28, v 29, v 30, v 31, v 32, v 33, v 34, v 35, v 36, v 37, v 38, v 39, v 40, v 41, v 42, v 43, v 44, v 45, v 46, v 47, v 48, v 49, v 50, v 51, v 52, v 53, v 54, v 55, v 56, v 57, v 58, v 59, v 60, v 61, v 62, v 63, v 64, v 65], defers := marks (D :: Ds) } V1 := by
        intro D V1 nn hD hdd oV MV bV hnn
        refine hK _ _ ?_
        have bt1 := BT0.out.only oV (by simp; omega)
        have kt : V1.cell? ⟨tb, 0, none⟩ = some (.int .i64 0) := by simpa using bt1.cell 0
        have kn : V1.cell? ⟨nb, 0, none⟩ = some (.int .i64 (nn : Nat)) := by simpa using bV.cell 0
        have hlen2 : (nB : Int) = (B.length : Int) := by omega
        have oA : Only [g, nb] w1 V1 := (HO1.out.mono (by simp)).trans oV (by simp)
        have ks : V1.cell? ⟨s, 0, none⟩ = some (.slice (some ⟨q, 0, none⟩) nB c) := by simpa using (HD0.out.only oA (by simp; omega)).cell 0
        have kl : V1.cell? ⟨s + 1, 0, none⟩ = some (.int .i64 leave) := by simpa using (HD1.out.only oA (by simp; omega)).cell 0
        have hVl := oV.size
        have fin : ∀ (V2 : World) (tn : Nat), Only [] V1 V2 → V1.heap.size ≤ tn → Blk V2 tn 3 #[.int .i64 1] → BS w1 h g gb cap mb N m 1 tn (D :: Ds) V2 := fun V2 tn o2 htn2 bT =>
          ⟨(HO1.out.trans oV (fun x hx => by simp at hx; rcases hx with e | e; exact .inl (by simp [e]); exact .inr (by omega))).trans0 o2, MV.only0 o2, bT, by omega, List.nodup_cons.2 ⟨fun hm => by have := (HDS.out D hm).2.1; omega, hnd⟩, fun E hE => by
            rcases List.mem_cons.1 hE with rfl | hE
            · have := (Array.getElem?_eq_some_iff.1 hdd).1
              exact ⟨by omega, (o2.block E this (by simp)).trans hdd⟩
            · obtain ⟨a1, a2, a3⟩ := HDS.out E hE
              have h1 : E < W0.heap.size := by omega
              exact ⟨a1, (o2.block E (by omega) (by simp)).trans ((oV.block E h1 (by simp; omega)).trans a3)⟩⟩
        have FIN := Lib.hid fin
        clear fin bV oV MV oA bt1 hlen2
        have hn0 : (nn : Int) = (nB : Int) ∨ True := .inr trivial
        by_cases e1 : nn = nB
        · subst e1
          gi_wp2
          have bT : Blk (V1.alloc (.cells #[.int .i64 1] 3)) V1.heap.size 3 #[.int .i64 1] := Blk.new V1 3 #[.int .i64 1]
          have hfin := FIN.out _ _ ((Only.refl [] V1).alloc (.cells #[.int .i64 1] 3)) (Nat.le_refl _) bT
          refine ⟨HII.out _ (D :: Ds) _ 1 V1.heap.size rfl (by omega) hfin, ?_⟩
          have : ((V1.alloc (.cells #[.int .i64 1] 3)).cell? ⟨V1.heap.size, 0, none⟩) = some (.int .i64 (1 : Nat)) := by simpa using bT.cell 0
          first | show 2 - (intOf (((World.cell? _ ⟨V1.heap.size, 0, none⟩)).getD undef)).toNat < _ | show 2 - (intOf (((World.cell? _ ⟨V1.heap.size, 0, none⟩)).getD undef)).toNat = 0
          rw [this]
          simp [intOf]
        · have e2 : (nn : Int) = leave := hnn.resolve_left e1
          have e3 : ¬ ((nn : Int) = (nB : Int)) := by omega
          have e4 : ((nn : Int) == (nB : Int)) = false := by simp; omega
          subst e2
          gi_wp2
          have bT : Blk (V1.alloc (.cells #[.int .i64 1] 3)) V1.heap.size 3 #[.int .i64 1] := Blk.new V1 3 #[.int .i64 1]
          have hfin := FIN.out _ _ ((Only.refl [] V1).alloc (.cells #[.int .i64 1] 3)) (Nat.le_refl _) bT
          refine ⟨HII.out _ (D :: Ds) _ 1 V1.heap.size rfl (by omega) hfin, ?_⟩
          have : ((V1.alloc (.cells #[.int .i64 1] 3)).cell? ⟨V1.heap.size, 0, none⟩) = some (.int .i64 (1 : Nat)) := by simpa using bT.cell 0
          first | show 2 - (intOf (((World.cell? _ ⟨V1.heap.size, 0, none⟩)).getD undef)).toNat < _ | show 2 - (intOf (((World.cell? _ ⟨V1.heap.size, 0, none⟩)).getD undef)).toNat = 0
          rw [this]
          simp [intOf]
      have RESTH := Lib.hid REST
      clear REST hK
      refine' wpIn_range_t (n := 8) (by decide) (gf := 79) (lb := #[.pointer (some ⟨s + 1 + 1 + 1, 0, none⟩)]) rfl (enters_of Tryd.func79 (by kernel_rfl) rfl)
        (g := g) (by omega) (fun A B h => h.1) ST (fun h k => h.trans k) (fun W l o o' hl h hc hw => KK.putObj W l o' (by omega) (by omega)) (fun _ => rfl)
        (fun pre V => pre <+: B ∧ Only [g, nb] W0 V ∧ Me V h g gb cap mb N m ∧ Blk V nb 3 #[.int .i64 (pre.length : Nat)])
        (fun cc pre V => cc = .exit 2 ∧ (pre.length : Int) = leave ∧ Only [g, nb] W0 V ∧ Me V h g gb cap mb N m ∧ Blk V nb 3 #[.int .i64 (pre.length : Nat)])
        (fun q0 A' B' row hq0 hg hr => by
        obtain ⟨h0, h1, h2, h3⟩ := hq0
        have o2 : Only (row.toList) A' B' := (Only.refl _ A').grown hg (fun q e => .inl (by simp [e]))
        have hn : ∀ q, row = some q → W0.heap.size ≤ q := fun q e => (hr q e).1
        refine ⟨h0, h1.grown hg (fun q e => .inr (hn q e)), h2.only o2 ?_ ?_ ?_, h3.only o2 ?_⟩
        all_goals (cases row with | none => simp | some q => (simp; have := hn q rfl; omega)))
        (fun cc q0 A' B' row hq0 hg hr => by
        obtain ⟨h0, h0', h1, h2, h3⟩ := hq0
        have o2 : Only (row.toList) A' B' := (Only.refl _ A').grown hg (fun q e => .inl (by simp [e]))
        have hn : ∀ q, row = some q → W0.heap.size ≤ q := fun q e => (hr q e).1
        refine ⟨h0, h0', h1.grown hg (fun q e => .inr (hn q e)), h2.only o2 ?_ ?_ ?_, h3.only o2 ?_⟩
        all_goals (cases row with | none => simp | some q => (simp; have := hn q rfl; omega)))
        (fun pre A' B' hq0 ht => by
          obtain ⟨h0, h1, h2, h3⟩ := hq0
          exact ⟨h0, h1.trans ht.1 (by simp), ht.2 h2, h3.only ht.1 (by simp; omega)⟩)
        ⟨List.nil_prefix, Only.refl _ _, M0, bn⟩
        (fun x a' V => ∃ bz, a' = { tmps := #[.pointer (some ⟨h, 0, none⟩), .slice (some ⟨q, 0, none⟩) nB c, .int .i64 leave, undef, .pointer (some ⟨s, 0, none⟩), .pointer (some ⟨s + 1, 0, none⟩), .pointer (some ⟨s + 1 + 1, 0, none⟩), .func (.func 79) #[] #[.pointer (some ⟨s + 1 + 1 + 1, 0, none⟩)], .pointer (some ⟨tb, 0, none⟩), .pointer (some ⟨nb, 0, none⟩), .pointer (some ⟨bz, 0, none⟩), v 11, v 12, v 13, v 14, .int .i64 0, .bool true, v 17, v 18, .func (.func 79) #[] #[.pointer (some ⟨s + 1 + 1 + 1, 0, none⟩)], .agg #[.int .i64 x.at', .int .i64 x.size, .bool (x.k == 1)], v 21, v 22, v 23, v 24, v 25, v 26, v 27, v 28, v 29, v 30, v 31, v 32, v 33, v 34, v 35, v 36, v 37, v 38, v 39, v 40, v 41, v 42, v 43, v 44, v 45, v 46, v 47, v 48, v 49, v 50, v 51, v 52, v 53, v 54, v 55, v 56, v 57, v 58, v 59, v 60, v 61, v 62, v 63, v 64, v 65], defers := [] } ∧ Blk V bz 42 #[.int .i64 x.at', .int .i64 x.size, .bool (x.k == 1)] ∧ nb < bz)
        (fun x a' s A B row hs hg hr => by obtain ⟨bz, hv, hz, hzl⟩ := hs; exact ⟨bz, hv, blk_turn hz hg (fun r e => (hr r e).2), hzl⟩) ?assign ?body ?done ?stop
      case assign =>
        rintro l pre x V K1 ⟨h0, h1, h2, h3⟩ hK1
        unfold encB
        gi_wp2
        have oo := (Only.refl [] V).alloc (.cells #[.int .i64 x.at', .int .i64 x.size, .bool (x.k == 1)] 42)
        have hW := h1.size
        exact hK1 _ _ (kf_only0 oo) (KK.only oo (by simp) (by omega) (by simp)) ⟨h0, h1.trans0 oo, h2.only0 oo, h3.only oo (by simp)⟩ ⟨V.heap.size, rfl, Blk.new V 42 _, by omega⟩
      case body =>
        rintro l pre x a' V hl0 ⟨r0, hr0⟩ ⟨h0, h1, h2, h3⟩ ⟨bz, rfl, hz, hzl⟩ hlen
        obtain ⟨C, eB⟩ : ∃ C, B = pre ++ x :: C := by obtain ⟨C, e⟩ := hlen; exact ⟨C, by rw [← e]; simp⟩
        have hxi : B[pre.length]? = some x := by rw [eB]; simp
        have hpl : pre.length < nB := by rw [← hnB, eB]; simp
        have hV := h1.size
        have oV0 : Only [g, nb] w1 V := (HO1.out.mono (by simp)).trans h1 (by simp)
        have oVw : Only [g] w V := ((HO0.out.mono (T := [g]) (by simp)).trans HO1.out (by simp)).trans h1 (fun y hy => by simp at hy; rcases hy with e | e; exact .inl (by simp [e]); exact .inr (by omega))
        obtain ⟨cs, hcb, hcc⟩ := HQ.out.only oVw (by simp; omega)
        obtain ⟨c0, c1, c2⟩ := hcc _ _ hxi
        obtain ⟨Z, hZ⟩ : ∃ Z : { W' : World // Me W' h g gb cap mb N m }, Z.1 = V.drew := ⟨⟨V.drew, h2.only0 ((Only.refl [] V).drew)⟩, rfl⟩
        have hbq : ∀ qr : Rd g (fun W' => Me W' h g gb cap mb N m) Z, Only [g] V qr.val := fun qr => ((Only.refl [g] V).drew).trans (hZ ▸ qr.ok) (by simp)
        have f0 : ∀ qr : Rd g (fun W' => Me W' h g gb cap mb N m) Z, qr.val.cell? ⟨q, pre.length * 3, none⟩ = some (.int .i64 x.at') := fun qr => by have := (hcb.only (hbq qr) (by simp; omega)).cell (pre.length * 3); rw [this]; exact c0
        have f1 : ∀ qr : Rd g (fun W' => Me W' h g gb cap mb N m) Z, qr.val.cell? ⟨q, pre.length * 3 + 1, none⟩ = some (.int .i64 x.size) := fun qr => by have := (hcb.only (hbq qr) (by simp; omega)).cell (pre.length * 3 + 1); rw [this]; exact c1
        have f2 : ∀ qr : Rd g (fun W' => Me W' h g gb cap mb N m) Z, qr.val.cell? ⟨q, pre.length * 3 + 2, none⟩ = some (.bool (x.k == 1)) := fun qr => by have := (hcb.only (hbq qr) (by simp; omega)).cell (pre.length * 3 + 2); rw [this]; exact c2
        have g0 : ∀ qr : Rd g (fun W' => Me W' h g gb cap mb N m) Z, qr.val.cell? ⟨s, 0, none⟩ = some (.slice (some ⟨q, 0, none⟩) nB c) := fun qr => by simpa using (((HD0.out.only oV0 (by simp; omega))).only (hbq qr) (by simp; omega)).cell 0
        have g9 : ∀ qr : Rd g (fun W' => Me W' h g gb cap mb N m) Z, qr.val.cell? ⟨nb, 0, none⟩ = some (.int .i64 (pre.length : Nat)) := fun qr => by simpa using (h3.only (hbq qr) (by simp; omega)).cell 0
        have z0 : ∀ qr : Rd g (fun W' => Me W' h g gb cap mb N m) Z, qr.val.cell? ⟨bz, 0, none⟩ = some (.int .i64 x.at') := fun qr => by simpa using (hz.only (hbq qr) (by simp; omega)).cell 0
        have z1 : ∀ qr : Rd g (fun W' => Me W' h g gb cap mb N m) Z, qr.val.cell? ⟨bz, 1, none⟩ = some (.int .i64 x.size) := fun qr => by simpa using (hz.only (hbq qr) (by simp; omega)).cell 1
        have z2 : ∀ qr : Rd g (fun W' => Me W' h g gb cap mb N m) Z, qr.val.cell? ⟨bz, 2, none⟩ = some (.bool (x.k == 1)) := fun qr => by simpa using (hz.only (hbq qr) (by simp; omega)).cell 2
        have i0 : (0 : Int) ≤ (pre.length : Int) := by omega
        have i1 : (pre.length : Int) < (nB : Int) := by omega
        have i2 : ¬ (nB : Int) ≤ (pre.length : Int) := by omega
        have i3 : decide ((nB : Int) ≤ (pre.length : Int)) = false := by simp; omega
        have i4 : decide (nB ≤ pre.length) = false := by simp; omega
        have hnq := neq42 x.at' x.size (x.k == 1)
        have HBQ := Lib.hid hbq
        have H0 := Lib.hid h0
        have H1 := Lib.hid h1
        have H2 := Lib.hid h2
        have H3 := Lib.hid h3
        have HZ := Lib.hid hz
        have HL := Lib.hid hlen
        have OV0 := Lib.hid oV0
        clear h0 h1 h3 hz hlen oV0 oVw hcb hcc c0 c1 c2 hbq eB hxi
        try dsimp only
        gi_wp2
        refine region_quiet_g (C := fun w' => ∃ qr : Rd g (fun W' => Me W' h g gb cap mb N m) Z, w' = qr.val) (by kernel_rfl) (by kernel_rfl) (by kernel_rfl) ⟨⟨_, hZ ▸ Only.refl _ _, h2.only0 ((Only.refl [] V).drew)⟩, rfl⟩ ?_
        repeat (gi_big_quiet_step (fail))
        refine wpQuietIn_nil ?_
        rintro _ ⟨qr, rfl⟩
        have o2 := HBQ.out qr
        have M2 := qr.me
        clear f0 f1 f2 g0 g9 z0 z1 z2 h2 i0 i1 i2 i3 i4
        generalize qr.val = W2 at o2 M2 ⊢
        have b2 := H3.out.only o2 (by simp; omega)
        have kn : W2.cell? ⟨nb, 0, none⟩ = some (.int .i64 (pre.length : Nat)) := by simpa using b2.cell 0
        have fz := b2.frozen 0
        have oV2 : Only [g, nb] w1 W2 := OV0.out.trans o2 (by simp)
        have kt : W2.cell? ⟨tb, 0, none⟩ = some (.int .i64 0) := by simpa using ((BT0.out.only H1.out (by simp; omega)).only o2 (by simp; omega)).cell 0
        have kl : W2.cell? ⟨s + 1, 0, none⟩ = some (.int .i64 leave) := by simpa using (HD1.out.only oV2 (by simp; omega)).cell 0
        have htn1 : tb ≠ nb := by omega
        have hsn1 : s + 1 ≠ nb := by omega
        have HB2 := Lib.hid b2
        have HM2 := Lib.hid M2
        have hnbw : nb < W0.heap.size := by omega
        have hW2s := o2.size
        clear b2 M2 oV2
        by_cases hlv : (pre.length : Int) + 1 = leave
        · have hlb : (((pre.length : Int) + 1) == leave) = true := by simp [hlv]
          have HLV : Hid (((pre ++ [x]).length : Int) = leave) := Lib.hid (by simp; exact hlv)
          clear hlv
          gi_wp2
          have oS : Only [nb] W2 (W2.setCell ⟨nb, 0, none⟩ (.int .i64 ((pre.length : Int) + 1))) := (Only.refl [nb] W2).setCell (p := ⟨nb, 0, none⟩) (.inl (by simp)) _
          have o9 : Only [g, nb] V (W2.setCell ⟨nb, 0, none⟩ (.int .i64 ((pre.length : Int) + 1))) := (o2.mono (by simp)).trans oS (by simp)
          have b9 : Blk (W2.setCell ⟨nb, 0, none⟩ (.int .i64 ((pre.length : Int) + 1))) nb 3 #[.int .i64 ((pre ++ [x]).length : Nat)] := by
            have := HB2.out.set_ 0 (.int .i64 ((pre.length : Int) + 1))
            simpa using this
          have M9 := HM2.out.only oS (by simp; omega) (by simp; omega) (by simp; omega)
          show KeepsFrom W0.heap.size V _ ∧ _
          exact ⟨kf_only o9 (by simp; omega), rfl, HLV.out, H1.out.trans o9 (by simp), M9, b9⟩
        · have hlb : (((pre.length : Int) + 1) == leave) = false := by simp [hlv]
          gi_wp2
          have oS : Only [nb] W2 (W2.setCell ⟨nb, 0, none⟩ (.int .i64 ((pre.length : Int) + 1))) := (Only.refl [nb] W2).setCell (p := ⟨nb, 0, none⟩) (.inl (by simp)) _
          have o9 : Only [g, nb] V (W2.setCell ⟨nb, 0, none⟩ (.int .i64 ((pre.length : Int) + 1))) := (o2.mono (by simp)).trans oS (by simp)
          have b9 : Blk (W2.setCell ⟨nb, 0, none⟩ (.int .i64 ((pre.length : Int) + 1))) nb 3 #[.int .i64 ((pre ++ [x]).length : Nat)] := by
            have := HB2.out.set_ 0 (.int .i64 ((pre.length : Int) + 1))
            simpa using this
          have M9 := HM2.out.only oS (by simp; omega) (by simp; omega) (by simp; omega)
          show KeepsFrom W0.heap.size V _ ∧ KK h g gb cap mb N m (s + 1 + 1 + 1) V _ ∧ _
          exact ⟨kf_only o9 (by simp; omega), ⟨o9.size, fun _ => M9, o9.block _ (by omega) (by simp; omega)⟩, HL.out, H1.out.trans o9 (by simp), M9, b9⟩
      case done =>
        rintro D ys V1 hDa hys ⟨h0, h1, h2, h3⟩ hK1
        obtain rfl := hys.symm
        rw [marks_cons]
        exact RESTH.out D V1 _ (by omega) hK1 h1 h2 h3 (.inl hnB)
      case stop =>
        rintro D cc pre V1 hDa hpre ⟨rfl, h0, h1, h2, h3⟩ hK1
        gi_wp2
        rw [marks_cons]
        exact RESTH.out D V1 _ (by omega) hK1 h1 h2 h3 (.inr h0)
    · -- turn 1
      have hlt2 : (1 : Int) < 2 := by omega
      gi_wp2
      rename_i K hK
      obtain ⟨nb, hnb⟩ : ∃ nb, W.heap.size = nb := ⟨_, rfl⟩
      obtain ⟨W0, hW0⟩ : ∃ W0, W.alloc (.cells #[.int .i64 0] 3) = W0 := ⟨_, rfl⟩
      have oW0 : Only [] W W0 := hW0 ▸ (Only.refl [] W).alloc _
      have bn : Blk W0 nb 3 #[.int .i64 (0 : Nat)] := by rw [← hW0, ← hnb]; exact Blk.new W 3 #[.int .i64 0]
      have hW0s : W0.heap.size = nb + 1 := by rw [← hW0, World.size_alloc, hnb]
      rw [hnb]
      try rw [hW0]
      have M0 := hst.out.me.only0 oW0
      have O1 : Only [g] w1 W0 := hst.out.only.trans0 oW0
      have bt0 := hst.out.tc.only oW0 (by simp)
      have hnd := hst.out.nd
      have hds : ∀ D ∈ Ds, w1.heap.size ≤ D ∧ D < nb ∧ W0.heap[D]? = some (.deferred (some [])) := fun D hD => by
        obtain ⟨a1, a2⟩ := hst.out.ds D hD
        have a3 := (Array.getElem?_eq_some_iff.1 a2).1
        exact ⟨a1, by omega, (oW0.block D a3 (by simp)).trans a2⟩
      have htn : tb < nb := by have := hst.out.tc.lt; omega
      have HDS := Lib.hid hds
      have BT0 := Lib.hid bt0
      have HO1 := Lib.hid O1
      have ba0 := HB1.out.only O1 (by simp; omega)
      have ST := all_stops (w := W0) 7 (by decide) HH.out.inv HH.out.all M0 ba0
      have REST : ∀ (D : Nat) (V1 : World) (nn : Nat), nb < D → V1.heap[D]? = some (.deferred (some [])) → Only [g, nb] W0 V1 → Me V1 h g gb cap mb N m → Blk V1 nb 3 #[.int .i64 (nn : Nat)] → (nn = nB) → K { tmps := #[.pointer (some ⟨h, 0, none⟩), .slice (some ⟨q, 0, none⟩) nB c, .int .i64 leave, undef, .pointer (some ⟨s, 0, none⟩), .pointer (some ⟨s + 1, 0, none⟩), .pointer (some ⟨s + 1 + 1, 0, none⟩), .func (.func 79) #[] #[.pointer (some ⟨s + 1 + 1 + 1, 0, none⟩)], .pointer (some ⟨tb, 0, none⟩), .pointer (some ⟨nb, 0, none⟩), v 10, v 11, v 12, v 13, v 14, .int .i64 1, .bool true, v 17, v 18, .func (.func 79) #[] #[.pointer (some ⟨s + 1 + 1 + 1, 0, none⟩)], v 20, v 21, v 22, v 23, v 24, v 25, v 26, v 27, v 28, v 29, v 30, v 31, v 32, v 33, v 34, v 35, v 36, v 37, v 38, v 39, v 40, v 41, v 42, v 43, v 44, v 45, v 46, v 47, v 48, v 49, v 50, v 51, v 52, v 53, v 54, v 55, v 56, v 57, v 58, v 59, v 60, v 61, v 62, v 63, v 64, v 65], defers := marks (D :: Ds) } V1 := by
        intro D V1 nn hD hdd oV MV bV hnn
        refine hK _ _ ?_
        have bt1 := BT0.out.only oV (by simp; omega)
        have kt : V1.cell? ⟨tb, 0, none⟩ = some (.int .i64 1) := by simpa using bt1.cell 0
        have kn : V1.cell? ⟨nb, 0, none⟩ = some (.int .i64 (nn : Nat)) := by simpa using bV.cell 0
        have hlen2 : (nB : Int) = (B.length : Int) := by omega
        have oA : Only [g, nb] w1 V1 := (HO1.out.mono (by simp)).trans oV (by simp)
        have ks : V1.cell? ⟨s, 0, none⟩ = some (.slice (some ⟨q, 0, none⟩) nB c) := by simpa using (HD0.out.only oA (by simp; omega)).cell 0
        have kl : V1.cell? ⟨s + 1, 0, none⟩ = some (.int .i64 leave) := by simpa using (HD1.out.only oA (by simp; omega)).cell 0
        have hVl := oV.size
        have fin : ∀ (V2 : World) (tn : Nat), Only [] V1 V2 → V1.heap.size ≤ tn → Blk V2 tn 3 #[.int .i64 2] → BS w1 h g gb cap mb N m 2 tn (D :: Ds) V2 := fun V2 tn o2 htn2 bT =>
          ⟨(HO1.out.trans oV (fun x hx => by simp at hx; rcases hx with e | e; exact .inl (by simp [e]); exact .inr (by omega))).trans0 o2, MV.only0 o2, bT, by omega, List.nodup_cons.2 ⟨fun hm => by have := (HDS.out D hm).2.1; omega, hnd⟩, fun E hE => by
            rcases List.mem_cons.1 hE with rfl | hE
            · have := (Array.getElem?_eq_some_iff.1 hdd).1
              exact ⟨by omega, (o2.block E this (by simp)).trans hdd⟩
            · obtain ⟨a1, a2, a3⟩ := HDS.out E hE
              have h1 : E < W0.heap.size := by omega
              exact ⟨a1, (o2.block E (by omega) (by simp)).trans ((oV.block E h1 (by simp; omega)).trans a3)⟩⟩
        have FIN := Lib.hid fin
        clear fin bV oV MV oA bt1 hlen2
        have hn0 : (nn : Int) = (nB : Int) ∨ True := .inr trivial
        · subst hnn
          gi_wp2
          have bT : Blk (V1.alloc (.cells #[.int .i64 2] 3)) V1.heap.size 3 #[.int .i64 2] := Blk.new V1 3 #[.int .i64 2]
          have hfin := FIN.out _ _ ((Only.refl [] V1).alloc (.cells #[.int .i64 2] 3)) (Nat.le_refl _) bT
          refine ⟨HII.out _ (D :: Ds) _ 2 V1.heap.size rfl (by omega) hfin, ?_⟩
          have : ((V1.alloc (.cells #[.int .i64 2] 3)).cell? ⟨V1.heap.size, 0, none⟩) = some (.int .i64 (2 : Nat)) := by simpa using bT.cell 0
          first | show 2 - (intOf (((World.cell? _ ⟨V1.heap.size, 0, none⟩)).getD undef)).toNat < _ | show 2 - (intOf (((World.cell? _ ⟨V1.heap.size, 0, none⟩)).getD undef)).toNat = 0
          rw [this]
          simp [intOf]
      have RESTH := Lib.hid REST
      clear REST hK
      refine' wpIn_range_t (n := 8) (by decide) (gf := 79) (lb := #[.pointer (some ⟨s + 1 + 1 + 1, 0, none⟩)]) rfl (enters_of Tryd.func79 (by kernel_rfl) rfl)
        (g := g) (by omega) (fun A B h => h.1) ST (fun h k => h.trans k) (fun W l o o' hl h hc hw => KK.putObj W l o' (by omega) (by omega)) (fun _ => rfl)
        (fun pre V => pre <+: B ∧ Only [g, nb] W0 V ∧ Me V h g gb cap mb N m ∧ Blk V nb 3 #[.int .i64 (pre.length : Nat)])
        (fun cc pre V => False)
        (fun q0 A' B' row hq0 hg hr => by
        obtain ⟨h0, h1, h2, h3⟩ := hq0
        have o2 : Only (row.toList) A' B' := (Only.refl _ A').grown hg (fun q e => .inl (by simp [e]))
        have hn : ∀ q, row = some q → W0.heap.size ≤ q := fun q e => (hr q e).1
        refine ⟨h0, h1.grown hg (fun q e => .inr (hn q e)), h2.only o2 ?_ ?_ ?_, h3.only o2 ?_⟩
        all_goals (cases row with | none => simp | some q => (simp; have := hn q rfl; omega)))
        (fun cc q0 A' B' row hq0 hg hr => hq0.elim)
        (fun pre A' B' hq0 ht => by
          obtain ⟨h0, h1, h2, h3⟩ := hq0
          exact ⟨h0, h1.trans ht.1 (by simp), ht.2 h2, h3.only ht.1 (by simp; omega)⟩)
        ⟨List.nil_prefix, Only.refl _ _, M0, bn⟩
        (fun x a' V => ∃ bz, a' = { tmps := #[.pointer (some ⟨h, 0, none⟩), .slice (some ⟨q, 0, none⟩) nB c, .int .i64 leave, undef, .pointer (some ⟨s, 0, none⟩), .pointer (some ⟨s + 1, 0, none⟩), .pointer (some ⟨s + 1 + 1, 0, none⟩), .func (.func 79) #[] #[.pointer (some ⟨s + 1 + 1 + 1, 0, none⟩)], .pointer (some ⟨tb, 0, none⟩), .pointer (some ⟨nb, 0, none⟩), .pointer (some ⟨bz, 0, none⟩), v 11, v 12, v 13, v 14, .int .i64 1, .bool true, v 17, v 18, .func (.func 79) #[] #[.pointer (some ⟨s + 1 + 1 + 1, 0, none⟩)], .agg #[.int .i64 x.at', .int .i64 x.size, .bool (x.k == 1)], v 21, v 22, v 23, v 24, v 25, v 26, v 27, v 28, v 29, v 30, v 31, v 32, v 33, v 34, v 35, v 36, v 37, v 38, v 39, v 40, v 41, v 42, v 43, v 44, v 45, v 46, v 47, v 48, v 49, v 50, v 51, v 52, v 53, v 54, v 55, v 56, v 57, v 58, v 59, v 60, v 61, v 62, v 63, v 64, v 65], defers := [] } ∧ Blk V bz 42 #[.int .i64 x.at', .int .i64 x.size, .bool (x.k == 1)] ∧ nb < bz)
        (fun x a' s A B row hs hg hr => by obtain ⟨bz, hv, hz, hzl⟩ := hs; exact ⟨bz, hv, blk_turn hz hg (fun r e => (hr r e).2), hzl⟩) ?assign ?body ?done ?stop
      case assign =>
        rintro l pre x V K1 ⟨h0, h1, h2, h3⟩ hK1
        unfold encB
        gi_wp2
        have oo := (Only.refl [] V).alloc (.cells #[.int .i64 x.at', .int .i64 x.size, .bool (x.k == 1)] 42)
        have hW := h1.size
        exact hK1 _ _ (kf_only0 oo) (KK.only oo (by simp) (by omega) (by simp)) ⟨h0, h1.trans0 oo, h2.only0 oo, h3.only oo (by simp)⟩ ⟨V.heap.size, rfl, Blk.new V 42 _, by omega⟩
      case body =>
        rintro l pre x a' V hl0 ⟨r0, hr0⟩ ⟨h0, h1, h2, h3⟩ ⟨bz, rfl, hz, hzl⟩ hlen
        obtain ⟨C, eB⟩ : ∃ C, B = pre ++ x :: C := by obtain ⟨C, e⟩ := hlen; exact ⟨C, by rw [← e]; simp⟩
        have hxi : B[pre.length]? = some x := by rw [eB]; simp
        have hpl : pre.length < nB := by rw [← hnB, eB]; simp
        have hV := h1.size
        have oV0 : Only [g, nb] w1 V := (HO1.out.mono (by simp)).trans h1 (by simp)
        have oVw : Only [g] w V := ((HO0.out.mono (T := [g]) (by simp)).trans HO1.out (by simp)).trans h1 (fun y hy => by simp at hy; rcases hy with e | e; exact .inl (by simp [e]); exact .inr (by omega))
        obtain ⟨cs, hcb, hcc⟩ := HQ.out.only oVw (by simp; omega)
        obtain ⟨c0, c1, c2⟩ := hcc _ _ hxi
        obtain ⟨Z, hZ⟩ : ∃ Z : { W' : World // Me W' h g gb cap mb N m }, Z.1 = V.drew := ⟨⟨V.drew, h2.only0 ((Only.refl [] V).drew)⟩, rfl⟩
        have hbq : ∀ qr : Rd g (fun W' => Me W' h g gb cap mb N m) Z, Only [g] V qr.val := fun qr => ((Only.refl [g] V).drew).trans (hZ ▸ qr.ok) (by simp)
        have f0 : ∀ qr : Rd g (fun W' => Me W' h g gb cap mb N m) Z, qr.val.cell? ⟨q, pre.length * 3, none⟩ = some (.int .i64 x.at') := fun qr => by have := (hcb.only (hbq qr) (by simp; omega)).cell (pre.length * 3); rw [this]; exact c0
        have f1 : ∀ qr : Rd g (fun W' => Me W' h g gb cap mb N m) Z, qr.val.cell? ⟨q, pre.length * 3 + 1, none⟩ = some (.int .i64 x.size) := fun qr => by have := (hcb.only (hbq qr) (by simp; omega)).cell (pre.length * 3 + 1); rw [this]; exact c1
        have f2 : ∀ qr : Rd g (fun W' => Me W' h g gb cap mb N m) Z, qr.val.cell? ⟨q, pre.length * 3 + 2, none⟩ = some (.bool (x.k == 1)) := fun qr => by have := (hcb.only (hbq qr) (by simp; omega)).cell (pre.length * 3 + 2); rw [this]; exact c2
        have g0 : ∀ qr : Rd g (fun W' => Me W' h g gb cap mb N m) Z, qr.val.cell? ⟨s, 0, none⟩ = some (.slice (some ⟨q, 0, none⟩) nB c) := fun qr => by simpa using (((HD0.out.only oV0 (by simp; omega))).only (hbq qr) (by simp; omega)).cell 0
        have g9 : ∀ qr : Rd g (fun W' => Me W' h g gb cap mb N m) Z, qr.val.cell? ⟨nb, 0, none⟩ = some (.int .i64 (pre.length : Nat)) := fun qr => by simpa using (h3.only (hbq qr) (by simp; omega)).cell 0
        have z0 : ∀ qr : Rd g (fun W' => Me W' h g gb cap mb N m) Z, qr.val.cell? ⟨bz, 0, none⟩ = some (.int .i64 x.at') := fun qr => by simpa using (hz.only (hbq qr) (by simp; omega)).cell 0
        have z1 : ∀ qr : Rd g (fun W' => Me W' h g gb cap mb N m) Z, qr.val.cell? ⟨bz, 1, none⟩ = some (.int .i64 x.size) := fun qr => by simpa using (hz.only (hbq qr) (by simp; omega)).cell 1
        have z2 : ∀ qr : Rd g (fun W' => Me W' h g gb cap mb N m) Z, qr.val.cell? ⟨bz, 2, none⟩ = some (.bool (x.k == 1)) := fun qr => by simpa using (hz.only (hbq qr) (by simp; omega)).cell 2
        have i0 : (0 : Int) ≤ (pre.length : Int) := by omega
        have i1 : (pre.length : Int) < (nB : Int) := by omega
        have i2 : ¬ (nB : Int) ≤ (pre.length : Int) := by omega
        have i3 : decide ((nB : Int) ≤ (pre.length : Int)) = false := by simp; omega
        have i4 : decide (nB ≤ pre.length) = false := by simp; omega
        have hnq := neq42 x.at' x.size (x.k == 1)
        have HBQ := Lib.hid hbq
        have H0 := Lib.hid h0
        have H1 := Lib.hid h1
        have H2 := Lib.hid h2
        have H3 := Lib.hid h3
        have HZ := Lib.hid hz
        have HL := Lib.hid hlen
        have OV0 := Lib.hid oV0
        clear h0 h1 h3 hz hlen oV0 oVw hcb hcc c0 c1 c2 hbq eB hxi
        try dsimp only
        gi_wp2
        refine region_quiet_g (C := fun w' => ∃ qr : Rd g (fun W' => Me W' h g gb cap mb N m) Z, w' = qr.val) (by kernel_rfl) (by kernel_rfl) (by kernel_rfl) ⟨⟨_, hZ ▸ Only.refl _ _, h2.only0 ((Only.refl [] V).drew)⟩, rfl⟩ ?_
        repeat (gi_big_quiet_step (fail))
        refine wpQuietIn_nil ?_
        rintro _ ⟨qr, rfl⟩
        have o2 := HBQ.out qr
        have M2 := qr.me
        clear f0 f1 f2 g0 g9 z0 z1 z2 h2 i0 i1 i2 i3 i4
        generalize qr.val = W2 at o2 M2 ⊢
        have b2 := H3.out.only o2 (by simp; omega)
        have kn : W2.cell? ⟨nb, 0, none⟩ = some (.int .i64 (pre.length : Nat)) := by simpa using b2.cell 0
        have fz := b2.frozen 0
        have oV2 : Only [g, nb] w1 W2 := OV0.out.trans o2 (by simp)
        have kt : W2.cell? ⟨tb, 0, none⟩ = some (.int .i64 1) := by simpa using ((BT0.out.only H1.out (by simp; omega)).only o2 (by simp; omega)).cell 0
        have kl : W2.cell? ⟨s + 1, 0, none⟩ = some (.int .i64 leave) := by simpa using (HD1.out.only oV2 (by simp; omega)).cell 0
        have htn1 : tb ≠ nb := by omega
        have hsn1 : s + 1 ≠ nb := by omega
        have HB2 := Lib.hid b2
        have HM2 := Lib.hid M2
        have hnbw : nb < W0.heap.size := by omega
        have hW2s := o2.size
        clear b2 M2 oV2
        · skip
          gi_wp2
          have oS : Only [nb] W2 (W2.setCell ⟨nb, 0, none⟩ (.int .i64 ((pre.length : Int) + 1))) := (Only.refl [nb] W2).setCell (p := ⟨nb, 0, none⟩) (.inl (by simp)) _
          have o9 : Only [g, nb] V (W2.setCell ⟨nb, 0, none⟩ (.int .i64 ((pre.length : Int) + 1))) := (o2.mono (by simp)).trans oS (by simp)
          have b9 : Blk (W2.setCell ⟨nb, 0, none⟩ (.int .i64 ((pre.length : Int) + 1))) nb 3 #[.int .i64 ((pre ++ [x]).length : Nat)] := by
            have := HB2.out.set_ 0 (.int .i64 ((pre.length : Int) + 1))
            simpa using this
          have M9 := HM2.out.only oS (by simp; omega) (by simp; omega) (by simp; omega)
          show KeepsFrom W0.heap.size V _ ∧ KK h g gb cap mb N m (s + 1 + 1 + 1) V _ ∧ _
          exact ⟨kf_only o9 (by simp; omega), ⟨o9.size, fun _ => M9, o9.block _ (by omega) (by simp; omega)⟩, HL.out, H1.out.trans o9 (by simp), M9, b9⟩
      case done =>
        rintro D ys V1 hDa hys ⟨h0, h1, h2, h3⟩ hK1
        obtain rfl := hys.symm
        rw [marks_cons]
        exact RESTH.out D V1 _ (by omega) hK1 h1 h2 h3 (hnB)
      case stop =>
        rintro D cc pre V1 hDa hpre hf
        exact hf.elim
    · -- behind the last turn
      have hlt2 : ¬ ((2 : Int) < 2) := by omega
      have o2 : Only [g] w W := (HO0.out.mono (T := [g]) (by simp)).trans hst.out.only (by simp)
      have b2 := HD2.out.only hst.out.only (by simp; omega)
      have k2 : W.cell? ⟨s + 1 + 1, 0, none⟩ = some (.bool false) := by simpa using b2.cell 0
      have f2 := b2.frozen 0
      have HB2 := Lib.hid b2
      clear b2
      gi_wp2
      go_wp2
      obtain ⟨W9, hW9⟩ : ∃ W9, W.setCell ⟨s + 1 + 1, 0, none⟩ (.bool true) = W9 := ⟨_, rfl⟩
      have o9 : Only [s + 1 + 1] W W9 := hW9 ▸ (Only.refl [s + 1 + 1] W).setCell (p := ⟨s + 1 + 1, 0, none⟩) (.inl (by simp)) _
      have b9 : Blk W9 (s + 1 + 1) 4 #[.bool true] := by
        have := HB2.out.set_ 0 (.bool true)
        rw [hW9] at this
        simpa using this
      rw [hW9]
      refine leaves_marks (by simp) Ds W9 hst.out.nd (fun D hD => ?_) (fun w' o => ?_)
      · obtain ⟨a1, a2⟩ := hst.out.ds D hD
        exact (o9.block D (Array.getElem?_eq_some_iff.1 a2).1 (by simp; omega)).trans a2
      · have hDs : ∀ D ∈ Ds, s + 1 + 1 + 1 ≤ D := fun D hD => by have := (hst.out.ds D hD).1; omega
        have b10 := b9.only o (fun hm => by have := hDs _ hm; omega)
        have kres : w'.cell? ⟨s + 1 + 1, 0, none⟩ = some (.bool true) := by simpa using b10.cell 0
        have oF : Only [g] w w' := (o2.trans o9 (by simp; omega)).trans o (fun D hD => .inr (by have := hDs D hD; omega))
        have MF := (hst.out.me.only o9 (by simp; omega) (by simp; omega) (by simp; omega)).only o (fun hm => by have := hDs _ hm; omega) (fun hm => by have := hDs _ hm; omega) (fun hm => by have := hDs _ hm; omega)
        exact ⟨.bool true, by simp [results, Tryd.results17, Tryd.f17, go_sem, kres], rfl, oF, HH.out.read oF MF⟩
end
end Go.Proofs.YthlaoanfoimkfaaDoor
