/- Tlsf: a range over All; Left. No condition but what each theorem says. -/
import Derived.Test.YthlaoanfoimkfaaDoorThF
import Derived.RangeFuncNested
import Derived.StillTailTactics
import Derived.RangeFuncBound
import Derived.RangeFuncCalls
import Derived.RangeFuncLeaves
import Derived.Shelf.Abstract
import Derived.Shelf.RegionOpen
import Derived.WalkKit
import Derived.OwnWalkIn
import Derived.TacticsInMore
import Derived.LoopNIn
import Derived.LoopIn
namespace Go.Proofs.YthlaoanfoimkfaaDoor
open Go.RowKit
set_option linter.unusedVariables false
set_option linter.all false
set_option maxRecDepth 100000
/-- The iterator's contract: T is what its own steps do between two rounds. -/
def SeqT {α : Type} (n : Nat) (P : Program) (gf : Nat) (lb : Array Value) (encs : α → Array Value) (T Kp : World → World → Prop) (S Sp Nx : List α → Prop) (w : World) : Prop :=
  ∀ (l : Nat) (J Jx : List α → World → Prop) (W : World), Below w.heap.size w W → AbidesFrom W.heap.size J → AbidesFrom W.heap.size Jx →
    (∀ pre A B, J pre A → T A B → J pre B) →
    (∀ pre x W1, J pre W1 → Nx (pre ++ [x]) → YieldAt Fence.wide (n - 1) P l (encs x) W1 fun e W' =>
      (e = .returned (.bool true) ∧ J (pre ++ [x]) W' ∧ Kp W1 W') ∨ (e = .returned (.bool false) ∧ Jx (pre ++ [x]) W')) →
    J [] W →
    CallsIn Fence.wide n P gf (#[.func (.yield l) #[] #[]] ++ lb) W fun e W' => (∃ v, e = .returned v) ∧ ((∃ xs, S xs ∧ J xs W') ∨ (∃ pre, Sp pre ∧ Jx pre W'))
/-- The loop's record, in its states. -/
def recOf (a : Act) (w : World) (fn : FuncId) (ps : Array Tmp) (assign body : Code) (st : LoopState) (pe : Option Code) : Loop := { state := st, pending := pe, fn, tmps := a.tmps, params := ps, assign, body, defers := w.heap.size }
theorem wpIn_range_t {α : Type} {P : Program} {n : Nat} {gop : Operand} {ps : Array Tmp} {assign body : Code} {Q : Exit → Act → World → Prop} {a : Act} {w : World}
    (h1 : 1 ≤ n) {gf : Nat} {lb : Array Value} (hg : a.eval gop = .func (.func gf) #[] lb) (eg : ∀ args w, (callFunc gf args).run P w = .ok (.enter gf args) w)
    {encs : α → Array Value} {T Kp : World → World → Prop} {S Sp Nx : List α → Prop} {g : Nat} (hgw : g < w.heap.size) (hT : ∀ A B, T A B → Only [g] A B) (hseq : SeqT (n - 1) P gf lb encs T Kp S Sp Nx w)
    (hKt : ∀ {A B C : World}, Kp A B → Kp B C → Kp A C) (hKb : ∀ (W : World) (l : Nat) (o o' : Obj), w.heap.size ≤ l → W.heap[l]? = some o → o.isCells = false → o.isWalk = false → Kp W (W.putObj l o')) (hps : ∀ x, (encs x).size = ps.size)
    (I : List α → World → Prop) (Ix : Code → List α → World → Prop) (hI : OwnFrom w.heap.size I) (hIx : ∀ c, OwnFrom w.heap.size (Ix c)) (hIT : ∀ pre A B, I pre A → T A B → I pre B) (h0 : I [] w) (Ax : α → Act → World → Prop) (hAx : ∀ x a', OwnFrom w.heap.size (fun (_ : Unit) W => Ax x a' W))
    (hassign : ∀ (l : Nat) (pre : List α) (x : α) (W : World) (K : Act → World → Prop), I pre W → (∀ a' W', KeepsFrom w.heap.size W W' → Kp W W' → I pre W' → Ax x a' W' → K a' W') →
      assign.wpIn (Fence.wide.inRound l) (n - 1 - 1) P (Exit.then K (fun _ _ _ => False)) { tmps := (ps.zip (encs x)).foldl (fun t (p, v) => t.setIfInBounds p v) a.tmps, defers := [] } W)
    (hbody : ∀ (l : Nat) (pre : List α) (x : α) (a' : Act) (W : World), w.heap.size ≤ l → (∃ r, W.heap[l]? = some (.loop r)) → I pre W → Ax x a' W → Nx (pre ++ [x]) → body.wpIn (Fence.wide.inRound l) (n - 1 - 1) P (ownPostG w.heap.size Kp I Ix (pre ++ [x]) W) a' W)
    (hdone : ∀ (D : Nat) (xs : List α) (W : World), w.heap.size ≤ D → S xs → I xs W → W.heap[D]? = some (.deferred (some [])) → Q .normal { a with defers := { target := .collected D, args := #[] } :: a.defers } W)
    (hstop : ∀ (D : Nat) (c : Code) (pre : List α) (W : World), w.heap.size ≤ D → Sp pre → Ix c pre W → W.heap[D]? = some (.deferred (some [])) → c.wpIn Fence.wide n P Q { a with defers := { target := .collected D, args := #[] } :: a.defers } W) :
    (Code.rangeFunc gop ps assign body).wpIn Fence.wide n P Q a w := by
  refine wpIn_rangeFunc fun fn hfn => ?_
  let R := recOf a w fn ps assign body
  let d := w.heap.size
  let W1 := (w.alloc (.deferred (some []))).alloc (.loop (R .ready none))
  have bL : W1.heap[d + 1]? = some (.loop (R .ready none)) := by
    have := World.alloc_heap_new (w.alloc (.deferred (some []))) (.loop (R .ready none)); rwa [World.size_alloc] at this
  have bD : W1.heap[d]? = some (.deferred (some [])) := (Below.heap_alloc _ _ _ (by simp; omega)).trans (World.alloc_heap_new w _)
  have i1 : I [] W1 := hI.alloc _ (hI.alloc _ h0)
  have lowW : Below w.heap.size w W1 := ((Below.refl _ w).alloc (Nat.le_refl _) _).alloc (by simp) _
  -- the two blocks of book-keeping
  let Bk2 : Loop → World → Prop := fun r W => W.heap[d + 1]? = some (.loop r) ∧ W.heap[d]? = some (.deferred (some []))
  have turn : ∀ {r A B row}, Bk2 r A → A.grownBy B row → (∀ q, row = some q → ∃ o : Obj, A.heap[q]? = some o ∧ o.isWalk = true) → Bk2 r B := fun hb hgr hr =>
    ⟨(grownBy_keeps hgr hr hb.1 rfl).trans hb.1, (grownBy_keeps hgr hr hb.2 rfl).trans hb.2⟩
  have slack : ∀ {A : World} {row : Option Nat}, (∀ q, row = some q → W1.heap.size ≤ q ∧ ∃ o : Obj, A.heap[q]? = some o ∧ o.isWalk = true) → (∀ q, row = some q → w.heap.size ≤ q ∧ ∃ o : Obj, A.heap[q]? = some o ∧ o.isCells = false) := fun hr q e => by
    obtain ⟨hq, o, ho, hw⟩ := hr q e
    exact ⟨Nat.le_trans lowW.size hq, o, ho, Obj.not_cells_of_walk hw⟩
  have put : ∀ {r r' W}, Bk2 r W → Bk2 r' (W.putObj (d + 1) (.loop r')) := fun hb =>
    ⟨World.putObj_heap_same (Array.getElem?_eq_some_iff.1 hb.1).1, (World.putObj_heap_other (by omega)).trans hb.2⟩
  refine ⟨d + 1, [{ target := .collected d, args := #[] }], W1, { target := .fn (.func gf) lb, args := #[.func (.yield (d + 1)) #[] #[]] }, W1, gf, #[.func (.yield (d + 1)) #[] #[]] ++ lb, W1, ?_, ?_, ?_, ?_, fun _ => h1, ?_⟩
  · exact run_enterLoop_outer _ _ _ _ _
  · simp only [resolve, hg]
    simp [go_sem]
  · intro f' hf'
    trivial
  · simp [invoke, go_sem, eg]
  · refine (hseq (d + 1) (fun pre W => I pre W ∧ Bk2 (R .ready none) W) (fun pre W => ∃ c, Ix c pre W ∧ Bk2 (R .done (some c)) W) W1 lowW
      (fun s A B row hs hgr hr => ⟨hI s A B row hs.1 hgr (slack hr), turn hs.2 hgr (fun q e => (hr q e).2)⟩)
      (fun s A B row hs hgr hr => by obtain ⟨c, hc, hb⟩ := hs; exact ⟨c, hIx c s A B row hc hgr (slack hr), turn hb hgr (fun q e => (hr q e).2)⟩)
      (fun pre A B hs ht => by
        have o := hT A B ht
        have l1 := (Array.getElem?_eq_some_iff.1 hs.2.1).1
        have l2 := (Array.getElem?_eq_some_iff.1 hs.2.2).1
        exact ⟨hIT pre A B hs.1 ht, (o.block (d + 1) l1 (by simp; omega)).trans hs.2.1, (o.block d l2 (by simp; omega)).trans hs.2.2⟩)
      ?_ ⟨i1, bL, bD⟩).mono ?_
    · rintro pre x W ⟨hi, hb⟩ hlen
      refine ⟨fn, _, assign, body, run_yield (P := P) (args := encs x) hb.1 (hps x), roundIn_of_wpIn hfn (hassign _ pre x W _ hi fun a' Wa k1 k2 k3 k4 => ?_)⟩
      have hb' : Bk2 (R .ready none) Wa := ⟨k1.same _ _ (by omega) hb.1 rfl, k1.same _ _ (Nat.le_refl _) hb.2 rfl⟩
      refine ⟨_, run_beginRound hb'.1 rfl, ?_⟩
      have hp := put (r' := { R .ready none with state := .busy }) hb'
      have kp1 : Kp Wa (Wa.putObj (d + 1) (.loop { R .ready none with state := .busy })) := hKb _ _ _ _ (by omega) hb'.1 rfl rfl
      refine wpIn_mono (hbody _ pre x a' _ (by omega) ⟨_, hp.1⟩ (hI.putObj _ k3 (by omega) hb'.1 rfl) ((hAx x a').putObj (s := ()) _ k4 (by omega) hb'.1 rfl) hlen) ?_
      have fin : ∀ (jump : Option Code) (W3 : World), KeepsFrom w.heap.size (Wa.putObj (d + 1) (.loop { R .ready none with state := .busy })) W3 →
          (Instr.endRound (d + 1) jump).run P W3 = .ok (.bool jump.isNone) (W3.putObj (d + 1) (.loop (R (if jump.isNone then .ready else .done) jump))) ∧ Bk2 { R .ready none with state := .busy } W3 := fun jump W3 k5 => by
        have hb3 : Bk2 { R .ready none with state := .busy } W3 := ⟨k5.same _ _ (by omega) hp.1 rfl, k5.same _ _ (Nat.le_refl _) hp.2 rfl⟩
        exact ⟨run_endRound (P := P) jump hb3.1, hb3⟩
      rintro e a3 W3 hq
      cases e with
      | normal =>
        obtain ⟨k5, k6, k7⟩ := hq
        obtain ⟨hr, hb3⟩ := fin none W3 k5
        exact ⟨_, _, hr, .inl ⟨rfl, ⟨hI.putObj _ k7 (by omega) hb3.1 rfl, put hb3⟩, hKt k2 (hKt (hKt kp1 k6) (hKb _ _ _ _ (by omega) hb3.1 rfl rfl))⟩⟩
      | ret =>
        obtain ⟨k5, k7⟩ := hq
        obtain ⟨hr, hb3⟩ := fin (some .ret) W3 k5
        exact ⟨_, _, hr, .inr ⟨rfl, .ret, (hIx _).putObj _ k7 (by omega) hb3.1 rfl, put hb3⟩⟩
      | exit id =>
        obtain ⟨k5, k7⟩ := hq
        obtain ⟨hr, hb3⟩ := fin (some (.exit id)) W3 k5
        exact ⟨_, _, hr, .inr ⟨rfl, .exit id, (hIx _).putObj _ k7 (by omega) hb3.1 rfl, put hb3⟩⟩
      | goto t =>
        obtain ⟨k5, k7⟩ := hq
        obtain ⟨hr, hb3⟩ := fin (some (.goto t)) W3 k5
        exact ⟨_, _, hr, .inr ⟨rfl, .goto t, (hIx _).putObj _ k7 (by omega) hb3.1 rfl, put hb3⟩⟩
      | panic ch => exact hq.elim
      | outgrown => exact hq.elim
    · rintro e W2 ⟨⟨v, rfl⟩, (⟨xs, hS, hi, hb⟩ | ⟨pre, hSp, c, hi, hb⟩)⟩
      · exact ⟨none, _, run_endLoop (P := P) hb.1 (by simp [R, recOf]), hdone _ xs _ (Nat.le_refl _) hS (hI.putObj _ hi (by omega) hb.1 rfl) ((World.putObj_heap_other (by omega)).trans hb.2)⟩
      · exact ⟨some c, _, run_endLoop (P := P) hb.1 (by simp [R, recOf]), hstop _ c pre _ (Nat.le_refl _) hSp ((hIx c).putObj _ hi (by omega) hb.1 rfl) ((World.putObj_heap_other (by omega)).trans hb.2)⟩
end Go.Proofs.YthlaoanfoimkfaaDoor
namespace Go.Proofs.YthlaoanfoimkfaaDoor
open Go.RowKit Go.Shelf
set_option linter.unusedVariables false
set_option linter.all false
set_option maxRecDepth 100000
attribute [local go_sem] Oper.semAt_some
/-- What the iterator's own steps do. -/
def TT (h g gb cap mb N : Nat) (m : Nat → Nat) (A B : World) : Prop := Only [g] A B ∧ (Me A h g gb cap mb N m → Me B h g gb cap mb N m)
/-- What a round must keep. -/
def KK (h g gb cap mb N : Nat) (m : Nat → Nat) (bx : Nat) (A B : World) : Prop := A.heap.size ≤ B.heap.size ∧ (Me A h g gb cap mb N m → Me B h g gb cap mb N m) ∧ B.heap[bx]? = A.heap[bx]?
section
variable {w w' : World} {h g gb cap mb N bx : Nat} {m : Nat → Nat} {B : List Bk} {L : Nat → List Nat} {X Y Z : World}
theorem KK.trans (a : KK h g gb cap mb N m bx X Y) (b : KK h g gb cap mb N m bx Y Z) : KK h g gb cap mb N m bx X Z := ⟨Nat.le_trans a.1 b.1, fun M => b.2.1 (a.2.1 M), b.2.2.trans a.2.2⟩
theorem KK.only {S : List Nat} (o : Only S X Y) (hS : h ∉ S ∧ g ∉ S ∧ gb ∉ S) (hb : bx < X.heap.size) (hb2 : bx ∉ S) : KK h g gb cap mb N m bx X Y := ⟨o.size, fun M => M.only o hS.1 hS.2.1 hS.2.2, o.block bx hb hb2⟩
theorem only_of_below {A B : World} (h : Below A.heap.size A B) : Only [] A B := ⟨h.os, h.tape, h.output, h.size, fun k hk _ => h.block k hk⟩
def encB (b : Bk) : Array Value := #[.agg #[.int .i64 b.at', .int .i64 b.size, .bool (b.k == 1)]]
theorem ab_T {J : List Bk → World → Prop} {pre : List Bk} {A B : World} (hT : ∀ pre A B, J pre A → TT h g gb cap mb N m A B → J pre B) (hj : J pre A) (o : Only [g] A B) (M : Me B h g gb cap mb N m) : J pre B := hT pre A B hj ⟨o, fun _ => M⟩
set_option maxHeartbeats 8000000 in
theorem all1_in (n l : Nat) (hn : 1 ≤ n) (J Jx : List Bk → World → Prop) (W : World) (hJT : ∀ pre A B, J pre A → TT h g gb cap mb N m A B → J pre B)
    (hY : ∀ pre x W1, J pre W1 → pre ++ [x] <+: B → YieldAt Fence.wide (n - 1) Tryd.prog l (encB x) W1 fun e W' =>
      (e = .returned (.bool true) ∧ J (pre ++ [x]) W' ∧ KK h g gb cap mb N m bx W1 W') ∨ (e = .returned (.bool false) ∧ Jx (pre ++ [x]) W'))
    (hI : Inv N m B L) (hall : ∀ b ∈ B, b.k ≠ 2) (hM : Me W h g gb cap mb N m) (hb : Blk W bx 23 #[.pointer (some ⟨h, 0, none⟩)]) (hbg : bx ≠ g) (h0 : J [] W) :
    CallsIn Fence.wide n Tryd.prog 79 #[.func (.yield l) #[] #[], .pointer (some ⟨bx, 0, none⟩)] W fun e W' => (∃ v, e = .returned v) ∧
      ((∃ ys, ys = B ∧ J ys W') ∨ (∃ pre, pre <+: B ∧ Jx pre W')) := by
  have cx : W.cell? ⟨bx, 0, none⟩ = some (.pointer (some ⟨h, 0, none⟩)) := by simpa using hb.cell 0
  have HM := Lib.hid hM
  have HB := Lib.hid hb
  have HI := Lib.hid hI
  have hN2 := hI.size.2.1
  clear hM hb
  refine callsIn_of_wp Tryd.func79 rfl trivial ?_ rfl
  simp only [Tryd.ntmps79, List.size_toArray, List.length_cons, List.length_nil, Nat.reduceAdd, Nat.reduceSub, Array.replicate_succ, Array.replicate_zero, List.push_toArray, List.append_toArray, List.nil_append, List.cons_append]
  gi_wp2_with (first
    | (refine ⟨trivial, ?_⟩; gi_at_call 56; refine (callsIn_wide.2 (there_any HM.out)).mono ?_; rintro e w2 ⟨rfl, rfl⟩))
  gi_loopw [3] (fun vi wr => ∃ (pre r : List Bk) (p : Nat), B = pre ++ r ∧ Tile p r N ∧ p ≤ N ∧ vi = .int .i64 p ∧ J pre wr ∧ Hid (Me wr h g gb cap mb N m) ∧ Hid (Blk wr bx 23 #[.pointer (some ⟨h, 0, none⟩)])) (fun vi _ => N - (intOf vi).toNat)
  case atStart => exact ⟨[], B, 112, rfl, HI.out.tile, HI.out.tile.le, rfl, h0, HM, HB⟩
  case round =>
    obtain ⟨pre, r, p, hpre, ht, hle, rfl, hj, hm, hx⟩ := hrel
    have cx : wr.cell? ⟨bx, 0, none⟩ = some (.pointer (some ⟨h, 0, none⟩)) := by simpa using hx.out.cell 0
    have k0 : wr.cell? ⟨h, 0, none⟩ = some (.pointer (some ⟨g, 0, none⟩)) := by simpa using hm.out.hdr.cell 0
    rcases r with _ | ⟨b, r⟩
    · have hp : p = N := ht
      subst hp
      have HP := Lib.hid hpre
      clear hpre
      gi_wp2_with (first
        | (refine ⟨trivial, ?_⟩; gi_at_call 42; refine (callsIn_wide.2 (len_any hm.out)).mono ?_; rintro e w3 ⟨rfl, rfl⟩)
        | (refine ⟨trivial, ?_⟩))
      go_end0
      exact ⟨⟨_, rfl⟩, .inl ⟨pre, by rw [HP.out]; simp, hj⟩⟩
    · obtain ⟨t1, t2, t3, t4⟩ := ht
      have t5 := t4.le
      have hkb := HI.out.kind b (by rw [hpre]; simp)
      have hk2 := hall b (by rw [hpre]; simp)
      have hhd := HI.out.head b (by rw [hpre]; simp) hk2
      have h8 := (Tile.mem HI.out.tile b (by rw [hpre]; simp)).2.2.2.2
      subst t1
      have SZ := Lib.hid (size_any' hm.out (p := b.at') (z := b.size) (k := b.k) (by omega) (by omega) (by omega) (by omega) hhd)
      have hlt : (b.at' : Int) < (N : Int) := by omega
      have h16 : ¬ (b.size : Int) < 16 := by omega
      have hlen9 : pre ++ [b] <+: B := by rw [hpre]; exact ⟨r, by simp⟩
      have HP := Lib.hid hpre
      clear hpre hhd
      gi_wp2_with (first
        | (refine ⟨trivial, ?_⟩; gi_at_call 42; refine (callsIn_wide.2 (len_any hm.out)).mono ?_; rintro e w3 ⟨rfl, rfl⟩))
      refine ⟨trivial, ?_⟩
      gi_at_call 51
      refine (callsIn_wide.2 SZ.out).mono ?_
      rintro e w3 ⟨rfl, o3, M3⟩
      have HJ3 := ab_T hJT hj o3 M3
      have HX3 := Lib.hid (hx.out.only o3 (by simp; exact hbg))
      have HM3 := Lib.hid M3
      obtain ⟨fn, tmps, assign, body, hy, hRo⟩ := hY pre b w3 HJ3 hlen9
      unfold encB at hy
      try dsimp only at hy
      gi_wp2
      refine hRo.mono ?_
      rintro e W3 (⟨rfl, hJ4, hk4⟩ | ⟨rfl, hJx4⟩)
      · have HM4 := Lib.hid (hk4.2.1 HM3.out)
        have HX4 := Lib.hid (show Blk W3 bx 23 #[.pointer (some ⟨h, 0, none⟩)] from hk4.2.2.trans HX3.out)
        gi_wp2
        go_roundw
        case rel => exact ⟨pre ++ [b], r, b.at' + b.size, by rw [HP.out]; simp, t4, t5, by go_num, hJ4, HM4, HX4⟩
        case measure => simp [intOf]; omega
      · gi_wp2
        refine bodyPost_ret (results_none rfl _ _ _) rfl ?_
        exact ⟨⟨_, rfl⟩, .inr ⟨pre ++ [b], by rw [HP.out]; exact ⟨r, by simp⟩, hJx4⟩⟩
theorem all_stops (n : Nat) (hn : 1 ≤ n) (hI : Inv N m B L) (hall : ∀ b ∈ B, b.k ≠ 2) (hM : Me w h g gb cap mb N m) (hb : Blk w bx 23 #[.pointer (some ⟨h, 0, none⟩)]) :
    SeqT n Tryd.prog 79 #[.pointer (some ⟨bx, 0, none⟩)] encB (TT h g gb cap mb N m) (KK h g gb cap mb N m bx) (fun ys => ys = B) (fun pre => pre <+: B) (fun pre => pre <+: B) w := by
  intro l J Jx W hW hJ hJx hJT hY h0
  have o := only_of_below hW
  have hne : bx ≠ g := by
    rintro rfl
    obtain ⟨bs, c, hA, _, _⟩ := hM.mem
    have := hb.symm.trans hA.hdr
    simp at this
  exact all1_in n l hn J Jx W hJT hY hI hall (hM.only0 o) (hb.only o (by simp)) hne h0
end
end Go.Proofs.YthlaoanfoimkfaaDoor
namespace Go.Proofs.YthlaoanfoimkfaaDoor
open Go.RowKit Go.Shelf
set_option linter.unusedVariables false
set_option linter.all false
set_option maxRecDepth 100000
attribute [local go_sem] Oper.semAt_some
section
variable {w w' : World} {h g gb cap mb N bx : Nat} {m : Nat → Nat} {B : List Bk} {L : Nat → List Nat} {X Y Z : World}
theorem all_any (h : Nat) (w : World) : Calls Tryd.prog 53 #[.pointer (some ⟨h, 0, none⟩)] w fun e w' => e = .returned (.func (.func 79) #[] #[.pointer (some ⟨w.heap.size, 0, none⟩)]) ∧ Only [] w w' ∧ Blk w' w.heap.size 23 #[.pointer (some ⟨h, 0, none⟩)] ∧ w'.heap.size = w.heap.size + 1 := by
  go_enter Tryd.func53, Tryd.ntmps53
  go_wp2
  go_ret
  exact ⟨by simp, (Only.refl [] w).alloc _, Blk.new w 23 _, by simp⟩
theorem only_put (W : World) (l : Nat) (o : Obj) : Only [l] W (W.putObj l o) := (Only.refl [l] W).grown (grownBy_putObj' W l o) (fun k e => by cases e; exact .inl (by simp))
theorem KK.putObj (W : World) (l : Nat) (o : Obj) (hS : h ≠ l ∧ g ≠ l ∧ gb ≠ l) (hb : bx ≠ l) : KK h g gb cap mb N m bx W (W.putObj l o) :=
  ⟨(only_put W l o).size, fun M => M.only (only_put W l o) (by simp; exact hS.1) (by simp; exact hS.2.1) (by simp; exact hS.2.2), World.putObj_heap_other (by omega)⟩
theorem blk_turn {W W' : World} {row : Option Nat} {g : Nat} {t : TypeId} {cs : Array Value} (h : Blk W g t cs) (hg : W.grownBy W' row) (hr : ∀ r, row = some r → ∃ o : Obj, W.heap[r]? = some o ∧ o.isCells = false) : Blk W' g t cs := by
  refine h.grown hg (fun e => ?_)
  obtain ⟨o, ho, hc⟩ := hr g e.symm
  unfold Blk at h
  rw [h] at ho
  cases ho
  simp [Obj.isCells] at hc
theorem ko_of_only {S : List Nat} {W W' : World} (h : Only S W W') (hS : ∀ k ∈ S, ∃ cs t q, W.heap[k]? = some (.cells cs t q)) : KeepsOthers W W' :=
  ⟨h.size, fun k o hk hc => (h.block k (Array.getElem?_eq_some_iff.1 hk).1 (fun hm => by
    obtain ⟨cs, t, q, e⟩ := hS k hm
    rw [e] at hk
    cases hk
    simp [Obj.isCells] at hc)).trans hk⟩
theorem kf_only0 {n : Nat} {W W' : World} (h : Only [] W W') : KeepsFrom n W W' := (ko_of_only h (fun _ hk => by cases hk)).from n
theorem blk_cells {W : World} {b : Nat} {t : TypeId} {cs : Array Value} (h : Blk W b t cs) : ∃ cs t q, W.heap[b]? = some (.cells cs t q) := ⟨_, _, _, h⟩
/-- The bytes that are free. -/
def leftN (B : List Bk) : Nat := (B.map (fun b => if b.k = 1 then b.size - 8 else 0)).sum
theorem leftN_app (A : List Bk) (b : Bk) : leftN (A ++ [b]) = leftN A + (if b.k = 1 then b.size - 8 else 0) := by simp [leftN]
theorem leftN_le {A : List Bk} {p e : Nat} (ht : Tile p B e) (h : A <+: B) : leftN A + p ≤ e := by
  obtain ⟨r, rfl⟩ := h
  obtain ⟨x, t1, t2⟩ := Tile.app.1 ht
  have h1 := t2.le
  clear t2 ht
  induction A generalizing p with
  | nil => have : p = x := t1; simp [leftN]; omega
  | cons a A ih =>
    obtain ⟨q1, q2, q3, q4⟩ := t1
    have := ih q4
    have e : leftN (a :: A) = (if a.k = 1 then a.size - 8 else 0) + leftN A := by simp [leftN]
    rw [e]
    split <;> omega
set_option maxHeartbeats 4000000 in
theorem left_any (hE : Env w) (H : Hp w h g gb cap mb N B L m) : Calls Tryd.prog 18 #[.pointer (some ⟨h, 0, none⟩)] w fun e w' => e = .returned (.int .i64 (leftN B)) ∧ Only [g] w w' ∧ Hp w' h g gb cap mb N B L m := by
  have HH := Lib.hid H
  have hlt := H.lt
  clear H hE
  refine (callsIn_wide (n := 8)).1 ?_
  refine callsIn_of_wp_marks Tryd.func18 rfl trivial ?_ rfl
  simp only [Tryd.ntmps18, List.size_toArray, List.length_cons, List.length_nil, Nat.reduceAdd, Nat.reduceSub, Array.replicate_succ, Array.replicate_zero, List.push_toArray, List.append_toArray, List.nil_append, List.cons_append]
  refine wpIn_wide.2 ?_
  go_wp2_with (first
    | (go_at_call 53; refine (all_any h _).mono ?_; rintro e w1 ⟨rfl, o1, b1, hs1⟩))
  have c3 := (Blk.new w 3 #[.int .i64 0]).only o1 (by simp)
  have O1 := (((Only.refl [] w).alloc (.cells #[.int .i64 0] 3)).trans0 o1)
  have hsz : w1.heap.size = w.heap.size + 2 := by rw [hs1]; simp
  have M1 := HH.out.me.only0 O1
  simp only [World.size_alloc] at b1
  obtain ⟨s, hs⟩ : ∃ s, w.heap.size = s := ⟨_, rfl⟩
  rw [hs] at hsz b1 c3 hlt
  simp only [hs, World.size_alloc]
  have ST := all_stops (w := w1) 7 (by decide) HH.out.inv HH.out.all M1 b1
  clear hs1 o1
  refine (wpIn_wide (n := 8)).1 ?_
  refine' wpIn_range_t (n := 8) (by decide) (gf := 79) (lb := #[.pointer (some ⟨s + 1, 0, none⟩)]) rfl (enters_of Tryd.func79 (by kernel_rfl) rfl)
    (g := g) (by omega) (fun A B h => h.1) ST (fun h k => h.trans k) (fun W l o o' hl h hc hw => KK.putObj W l o' (by omega) (by omega)) (fun _ => rfl)
    (fun pre W => Only [g, s] w1 W ∧ Me W h g gb cap mb N m ∧ ∃ v, Blk W s 3 #[.int .i64 v] ∧ (pre <+: B → v = leftN pre))
    (fun c pre W => False)
    (fun q0 A B row hq hg hr => by
      obtain ⟨h1, h2, v, h3, h4⟩ := hq
      have hA := h1.size
      have hx : ∀ q, row = some q → q ∈ [g, s] ∨ w1.heap.size ≤ q := fun q e => .inr (by have := (hr q e).1; omega)
      have o2 : Only (row.toList) A B := (Only.refl _ A).grown hg (fun q e => .inl (by simp [e]))
      have hn : ∀ q, row = some q → w1.heap.size ≤ q := fun q e => (hr q e).1
      refine ⟨h1.grown hg hx, h2.only o2 ?_ ?_ ?_, v, h3.only o2 ?_, h4⟩
      all_goals (cases row with | none => simp | some q => (simp; have := hn q rfl; omega)))
    (fun c s A B row hs hg hr => hs.elim)
    (fun pre A B hq ht => by
      obtain ⟨h1, h2, v, h3, h4⟩ := hq
      exact ⟨h1.trans ht.1 (by simp), ht.2 h2, v, h3.only ht.1 (by simp; omega), h4⟩)
    ⟨Only.refl _ _, M1, 0, c3, fun _ => rfl⟩
    (fun x a' W => ∃ bz, a' = { tmps := #[.pointer (some ⟨h, 0, none⟩), undef, .int .i64 0, .pointer (some ⟨s, 0, none⟩), .pointer (some ⟨bz, 0, none⟩), .pointer (some ⟨h, 0, none⟩), .func (.func 79) #[] #[.pointer (some ⟨s + 1, 0, none⟩)], .agg #[.int .i64 x.at', .int .i64 x.size, .bool (x.k == 1)], undef, undef, undef, undef, undef, undef, undef, undef], defers := [] } ∧
      Blk W bz 42 #[.int .i64 x.at', .int .i64 x.size, .bool (x.k == 1)])
    (fun x a' s A B row hs hg hr => by obtain ⟨bz, hv, hz⟩ := hs; exact ⟨bz, hv, blk_turn hz hg (fun r e => (hr r e).2)⟩) ?assign ?body ?done ?stop
  case assign =>
    rintro l pre x W K ⟨h1, h2, v, h3, h4⟩ hK
    unfold encB
    gi_wp2
    have oo := (Only.refl [] W).alloc (.cells #[.int .i64 x.at', .int .i64 x.size, .bool (x.k == 1)] 42)
    have hW := h1.size
    exact hK _ _ (kf_only0 oo) (KK.only oo (by simp) (by omega) (by simp)) ⟨h1.trans0 oo, h2.only0 oo, v, h3.only oo (by simp), h4⟩ ⟨W.heap.size, rfl, Blk.new W 42 _⟩
  case body =>
    rintro l pre x a' W hl0 ⟨r0, hr0⟩ ⟨h1, h2, v, h3, h4⟩ ⟨bz, rfl, hz⟩ hlen
    have z1 : W.cell? ⟨bz, 1, none⟩ = some (.int .i64 x.size) := by simpa using hz.cell 1
    have z2 : W.cell? ⟨bz, 2, none⟩ = some (.bool (x.k == 1)) := by simpa using hz.cell 2
    have s0 : W.cell? ⟨s, 0, none⟩ = some (.int .i64 v) := by simpa using h3.cell 0
    have hW := h1.size
    have fz := h3.frozen 0
    have H3 := Lib.hid h3
    have H4 := Lib.hid h4
    have hsg : s ≠ g ∧ s ≠ gb ∧ s ≠ h := by omega
    have hpre : pre ++ [x] <+: B → pre <+: B ∧ x ∈ B := fun hp => ⟨(List.prefix_append pre [x]).trans hp, hp.subset (by simp)⟩
    by_cases hk : x.k = 1
    · have e1 : (x.k == 1) = true := by simp [hk]
      rw [e1] at z2
      clear h3 h4
      try dsimp only
      gi_wp2
      have oS : Only [s] W (W.setCell ⟨s, 0, none⟩ (.int .i64 (wrap64 (v + wrap64 ((x.size : Int) - 8))))) := (Only.refl [s] W).setCell (.inl (by simp)) _
      refine ⟨(ko_of_only oS (fun k hk => by rw [List.mem_singleton.1 hk]; exact blk_cells H3.out)).from _, KK.only oS (by simp; omega) (by omega) (by simp), h1.trans oS (by simp), h2.only oS (by simp; omega) (by simp; omega) (by simp; omega), _, by simpa using H3.out.set_ 0 _, fun hp => ?_⟩
      obtain ⟨q1, q2⟩ := hpre hp
      have e2 := H4.out q1
      have hm := Tile.mem HH.out.inv.tile x q2
      have hN := HH.out.inv.size
      have hb := leftN_le HH.out.inv.tile q1
      rw [leftN_app, if_pos hk, e2]
      unfold wrap64
      omega
    · have e1 : (x.k == 1) = false := by simp [hk]
      rw [e1] at z2
      clear h3 h4
      try dsimp only
      gi_wp2
      exact ⟨KeepsFrom.refl _ _, KK.only (Only.refl [] W) (by simp) (by omega) (by simp), h1, h2, v, H3.out, fun hp => by rw [leftN_app, if_neg hk]; exact H4.out (hpre hp).1⟩
  case done =>
    rintro D ys V1 hDa rfl ⟨h1, h2, v, h3, h4⟩ hK1
    have s0 : V1.cell? ⟨s, 0, none⟩ = some (.int .i64 v) := by simpa using h3.cell 0
    have ev := h4 (List.prefix_refl _)
    have KD := Lib.hid hK1
    clear hK1 h4
    gi_wp2
    go_wp2
    refine ⟨by simp, .inl ⟨_, _, rfl, run_takeDeferred KD.out, ?_⟩⟩
    have hgr := grownBy_putObj' V1 D (.deferred none)
    have o2 := only_put V1 D (.deferred none)
    have hW := h1.size
    have o3 : Only [g] w V1 := (O1.mono (by simp)).trans h1 (by simp; omega)
    refine ⟨.int .i64 (leftN ys), by simp [results, Tryd.results18, Tryd.f18, go_sem], rfl, o3.grown hgr (fun k e => by cases e; exact .inr (by omega)), ?_⟩
    exact HH.out.read (o3.grown hgr (fun k e => by cases e; exact .inr (by omega))) (h2.only o2 (by simp; omega) (by simp; omega) (by simp; omega))
  case stop =>
    rintro D cc pre V1 hDb hpre hf
    exact hf.elim
end
end Go.Proofs.YthlaoanfoimkfaaDoor
