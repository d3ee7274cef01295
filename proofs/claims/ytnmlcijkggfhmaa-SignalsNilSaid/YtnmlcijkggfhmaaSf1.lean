/- Signals: All, an iterator: its contract. Condition: the signals lie, or are not there. -/
import Derived.Test.YtnmlcijkggfhmaaSe5
import Derived.RangeFuncNested
import Derived.RangeFuncBound
import Derived.RangeFuncCalls
import Derived.RangeFuncLeaves
import Derived.Shelf.Abstract
import Derived.Shelf.RegionOpen
import Derived.Sort.QuietIn
import Derived.WalkKit
import Derived.OwnWalkIn
import Derived.TacticsInMore
import Derived.LoopNIn
import Derived.LoopIn
import Derived.Laws.BitsAllLaws
namespace Go.Proofs.Ytnmlcijkggfhmaa
open Go.RowKit Go.Shelf
open Go.Maps (Keyed)
set_option linter.unusedVariables false
set_option linter.all false
set_option maxRecDepth 100000
attribute [local go_sem] Oper.semAt_some

/-- What a round keeps: the blocks below N, but X. -/
def Kpx (X : List Nat) (N : Nat) (A B : World) : Prop := A.heap.size ≤ B.heap.size ∧ ∀ k, k < N → k ∉ X → B.heap[k]? = A.heap[k]?
section
variable {X : List Nat} {N : Nat} {A B C : World}
theorem Kpx.refl (X : List Nat) (N : Nat) (A : World) : Kpx X N A A := ⟨Nat.le_refl _, fun _ _ _ => rfl⟩
theorem Kpx.trans (h : Kpx X N A B) (k : Kpx X N B C) : Kpx X N A C := ⟨Nat.le_trans h.1 k.1, fun i hi hx => (k.2 i hi hx).trans (h.2 i hi hx)⟩
theorem Kpx.only {S : List Nat} (h : Only S A B) (hN : N ≤ A.heap.size) (hS : ∀ x ∈ S, x ∈ X ∨ N ≤ x) : Kpx X N A B :=
  ⟨h.size, fun k hk hx => h.block k (by omega) (fun hs => (hS k hs).elim hx (fun hle => by omega))⟩
theorem Kpx.only0 (h : Only [] A B) (hN : N ≤ A.heap.size) : Kpx X N A B := Kpx.only h hN (by simp)
theorem Kpx.putObj (W : World) (l : Nat) (o o' : Obj) (hl : N ≤ l) : Kpx X N W (W.putObj l o') := by
  refine ⟨(grownBy_putObj' W l o').size, fun k hk hx => ?_⟩
  exact World.putObj_heap_other (by omega)
theorem Kpx.blk {g : Nat} {t : TypeId} {cs : Array Value} (h : Kpx X N A B) (hg : g < N) (hx : g ∉ X) (hb : Blk A g t cs) : Blk B g t cs := (h.2 g hg hx).trans hb
theorem Kpx.mp {P : Program} {K : TypeId} {b n : Nat} {f : Value → Option Value} (h : Kpx X N A B) (hb : b < N) (hx : b ∉ X) (hm : Mp P K A b f n) : Mp P K B b f n := by
  obtain ⟨es, clock, h1, hn⟩ := hm
  exact ⟨es, clock, ⟨(h.2 b hb hx).trans h1.heap, h1.keys, h1.stamped, h1.says⟩, hn⟩
theorem Kpx.i64 {Bs : List Nat} {a : Option Addr} {l : List Int} (h : Kpx X N A B) (hB : ∀ b ∈ Bs, b < N ∧ b ∉ X) (hI : I64 A Bs a l) : I64 B Bs a l := fun hp => by
  obtain ⟨g, of, cs, e, hg, hb, hc⟩ := hI hp
  exact ⟨g, of, cs, e, hg, h.blk (hB g hg).1 (hB g hg).2 hb, hc⟩
theorem Kpx.below (h : Below N A B) : Kpx X N A B := ⟨h.size, fun k hk _ => h.block k hk⟩
theorem only_grown (h : Only [] A B) (row : Option Nat) : A.grownBy B row := ⟨h.os, h.tape, h.output, h.size, fun k hk _ => h.block k hk (by simp)⟩
theorem ab_only0 {β : Type} {n : Nat} {J : β → World → Prop} (hJ : AbidesFrom n J) {s : β} (h : J s A) (o : Only [] A B) : J s B := hJ s A B none h (only_grown o none) (fun r e => by cases e)
end
/-- What All goes over. -/
def piece (p : Nat) (Q : Nat → List Int) (k : Nat) : List (Nat × Int) := if p.testBit k then (Q k).map (fun v => (k, v)) else []
def pieces (p : Nat) (Q : Nat → List Int) (n : Nat) : List (Nat × Int) := (List.range n).flatMap (piece p Q)
theorem pieces_succ (p : Nat) (Q : Nat → List Int) (n : Nat) : pieces p Q (n + 1) = pieces p Q n ++ piece p Q n := by
  unfold pieces
  rw [List.range_succ, List.flatMap_append]
  simp
theorem pieces_prefix (p : Nat) (Q : Nat → List Int) (n : Nat) : ∀ m, n ≤ m → pieces p Q n <+: pieces p Q m := by
  intro m hm
  obtain ⟨k, rfl⟩ := Nat.exists_eq_add_of_le hm
  induction k with
  | zero => exact List.prefix_refl _
  | succ k ih => rw [← Nat.add_assoc, pieces_succ]; exact (ih (by omega)).trans (List.prefix_append _ _)
theorem take_snoc {α : Type} {l : List α} {i : Nat} {v : α} (h : l[i]? = some v) : l.take i ++ [v] = l.take (i + 1) := by
  rw [List.take_add_one, h]; rfl
theorem piece_take {p : Nat} {Q : Nat → List Int} {k : Nat} (hb : p.testBit k = true) (i : Nat) : pieces p Q k ++ ((Q k).take i).map (fun v => (k, v)) <+: pieces p Q (k + 1) := by
  rw [pieces_succ]
  unfold piece
  rw [if_pos hb]
  exact (List.prefix_append_right_inj _).2 ((List.take_prefix i (Q k)).map _)
theorem piece_snoc {p : Nat} {Q : Nat → List Int} {k i : Nat} {v : Int} (h : (Q k)[i]? = some v) : pieces p Q k ++ ((Q k).take i).map (fun v => (k, v)) ++ [(k, v)] = pieces p Q k ++ ((Q k).take (i + 1)).map (fun v => (k, v)) := by
  rw [List.append_assoc, ← take_snoc h, List.map_append]; rfl
theorem piece_len {p : Nat} {Q : Nat → List Int} {k i : Nat} (hb : p.testBit k = true) (hk : k < 32) (hi : i < (Q k).length) : (pieces p Q k ++ ((Q k).take i).map (fun v => (k, v))).length < (pieces p Q 32).length := by
  have h1 := (pieces_prefix p Q (k + 1) 32 (by omega)).length_le
  rw [pieces_succ, List.length_append] at h1
  unfold piece at h1
  rw [if_pos hb, List.length_map] at h1
  rw [List.length_append, List.length_map, List.length_take]
  omega
theorem piece_all {p : Nat} {Q : Nat → List Int} {k : Nat} (hb : p.testBit k = true) : pieces p Q k ++ ((Q k).take (Q k).length).map (fun v => (k, v)) = pieces p Q (k + 1) := by
  rw [pieces_succ, List.take_length]
  unfold piece
  rw [if_pos hb]
theorem piece_no {p : Nat} {Q : Nat → List Int} {k : Nat} (hb : p.testBit k = false) : pieces p Q (k + 1) = pieces p Q k := by
  rw [pieces_succ]
  unfold piece
  rw [hb]; simp
/-- Where the queues are read. -/
def Reads (sv : Value) (t : Int) (p : Nat) (Q : Nat → List Int) (X : List Nat) (N : Nat) (W : World) : Prop :=
  ∀ k, 16 ≤ k → k < 32 → p.testBit k = true → ∃ g mb A c Bs, sv = ptr g ∧ g < N ∧ g ∉ X ∧ (∀ b ∈ Bs, b < N ∧ b ∉ X) ∧ I64 W Bs A (Q k) ∧
    ∀ V, Kpx X N W V → V.cell? ⟨g, 35, none⟩ = some (.map (some mb)) ∧ (Instr.lookup 59 (.map (some mb)) (.agg #[.int .i64 t, .int .i64 (k : Int)]) false).run Try.prog V = .ok (.slice A (Q k).length c) V
set_option maxHeartbeats 8000000 in
theorem all1_in (n l bx bt N : Nat) (X : List Nat) (hn : 1 ≤ n) (a : Option Addr) (t : Int) (p : Nat) (hp : p < 4294967296) (hp0 : p.testBit 0 = false) (Q : Nat → List Int) (hQ : ∀ k, k < 16 → Q k = [0]) (J Jx : List (Nat × Int) → World → Prop) (W : World) (hJ : AbidesFrom W.heap.size J)
    (hY : ∀ pre x W1, J pre W1 → pre.length < (pieces p Q 32).length → YieldAt Fence.wide (n - 1) Try.prog l #[.agg #[.int .i64 (x.1 : Nat), .int .i64 x.2]] W1 fun e W' =>
      (e = .returned (.bool true) ∧ J (pre ++ [x]) W' ∧ Kpx X N W1 W') ∨ (e = .returned (.bool false) ∧ Jx (pre ++ [x]) W'))
    (hNW : N ≤ W.heap.size) (hbx : bx < N ∧ bx ∉ X) (hbt : bt < N ∧ bt ∉ X)
    (hb : Blk W bx 24 #[.pointer a]) (hb2 : Blk W bt 3 #[.int .i64 t]) (hP : Calls Try.prog 13 #[.pointer a, .int .i64 t] W fun e w' => e = .returned (.int .u32 (p : Nat)) ∧ w' = W)
    (hR : Reads (.pointer a) t p Q X N W) (hL : ∀ k, (Q k).length ≤ 1000) (h0 : J [] W) :
    CallsIn Fence.wide n Try.prog 46 #[.func (.yield l) #[] #[], .pointer (some ⟨bx, 0, none⟩), .pointer (some ⟨bt, 0, none⟩)] W fun e W' => (∃ v, e = .returned v) ∧
      ((∃ ys, ys = pieces p Q 32 ∧ J ys W') ∨ (∃ pre, pre <+: pieces p Q 32 ∧ Jx pre W')) := by
  have c0 : W.cell? ⟨bx, 0, none⟩ = some (.pointer a) := (hb.cell 0).trans rfl
  have c1 : W.cell? ⟨bt, 0, none⟩ = some (.int .i64 t) := (hb2.cell 0).trans rfl
  have PE := hide hP
  have HR := hide hR
  have HQ := hide hQ
  have HL := hide hL
  clear hP hR hQ hL
  refine callsIn_of_wp Try.func46 rfl trivial ?_ rfl
  simp only [Try.ntmps46, List.size_toArray, List.length_cons, List.length_nil, Nat.reduceAdd, Nat.reduceSub, Array.replicate_succ, Array.replicate_zero, List.push_toArray, List.append_toArray, List.nil_append, List.cons_append]
  gi_wp2_with (first
    | (refine ⟨trivial, ?_⟩; gi_at_call 13; refine (callsIn_wide.2 PE.out).mono ?_; rintro e w' ⟨rfl, hw⟩; obtain rfl := hw.symm; clear hw))
  clear c0 c1
  gi_loopw [5] (fun vn wr => ∃ k : Nat, 1 ≤ k ∧ k ≤ 32 ∧ vn = .int .i64 k ∧ J (pieces p Q k) wr ∧ Hid (Kpx X N W wr)) (fun vn _ => 32 - (intOf vn).toNat)
  case atStart => exact ⟨1, Nat.le_refl _, by omega, rfl, (show pieces p Q 1 = [] by unfold pieces; simp [piece, hp0]) ▸ h0, hide (Kpx.refl _ _ _)⟩
  case round =>
    obtain ⟨k, k1, k2, rfl, hj, hk⟩ := hrel
    have hsz := hk.out.1
    by_cases hlt : k < 32
    · have z2 := bit_at p k hp
      have i0 : (k : Int) < 32 := by omega
      have i1 : (0 : Int) ≤ (k : Int) := by omega
      by_cases hbit : p.testBit k = true
      · rw [if_pos hbit] at z2
        have HB := hide hbit
        clear hbit
        by_cases h16 : 16 ≤ k
        · have d16 : (16 : Int) ≤ (k : Int) := by omega
          obtain ⟨g, mb, A, c, Bs, eg, hgN, hgX, hBs, hI, hrd⟩ := HR.out k h16 hlt HB.out
          unfold ptr at eg
          simp only [Value.pointer.injEq] at eg
          subst eg
          have hk8 : Kpx X N W (wr.alloc (.cells #[.int .i64 0] 2)) := hk.out.trans (Kpx.only0 ((Only.refl [] wr).alloc _) (by omega))
          have hj8 := ab_only0 hJ hj ((Only.refl [] wr).alloc (.cells #[.int .i64 0] 2))
          have s8 : wr.heap.size ≤ (wr.alloc (.cells #[.int .i64 0] 2)).heap.size := by simp
          gi_wp2
          generalize wr.alloc (.cells #[.int .i64 0] 2) = w8 at hk8 hj8 s8 ⊢
          have cx : w8.cell? ⟨bx, 0, none⟩ = some (.pointer (some ⟨g, 0, none⟩)) := ((hk8.blk hbx.1 hbx.2 hb).cell 0).trans rfl
          have ct : w8.cell? ⟨bt, 0, none⟩ = some (.int .i64 t) := ((hk8.blk hbt.1 hbt.2 hb2).cell 0).trans rfl
          have KL := fun d => (hrd (w8.drewN d) (hk8.trans (Kpx.only0 ((Only.refl [] w8).drewN d) (by omega)))).2
          have KM0 := (hrd w8 hk8).1
          have KL0 := (hrd w8 hk8).2
          have HI := hide hI
          have HBs := hide hBs
          have HLn := hide (HL.out k)
          clear hI hBs hrd
          gi_quiet (fail)
          gi_wp2
          have hk9 := hide (hk8.trans (Kpx.only0 ((Only.refl [] w8).drewN nq) (by omega)))
          have hj9 := ab_only0 hJ hj8 ((Only.refl [] w8).drewN nq)
          generalize w8.drewN nq = w9 at hk9 hj9 ⊢
          clear cx ct KL KM0 KL0 hk8 hj8 s8
          gi_loopw [36] (fun vi wy => ∃ i : Nat, i ≤ (Q k).length ∧ vi = .int .i64 i ∧ J (pieces p Q k ++ ((Q k).take i).map (fun v => (k, v))) wy ∧ Hid (Kpx X N W wy)) (fun vi _ => (Q k).length - (intOf vi).toNat)
          case atStart => exact ⟨0, Nat.zero_le _, rfl, by simpa using hj9, hk9⟩
          case round =>
            obtain ⟨i, hi, rfl, hjy, hky⟩ := hrel
            by_cases hli : i < (Q k).length
            · obtain ⟨x, hx⟩ : ∃ x, (Q k)[i]? = some x := ⟨_, List.getElem?_eq_getElem hli⟩
              obtain ⟨g2, o2, rfl, a0⟩ := (hky.out.i64 HBs.out HI.out).cell hx
              have HX := hide hx
              have j1 : (0 : Int) ≤ (i : Int) := by omega
              have j2 : (i : Int) < ((Q k).length : Int) := by omega
              have hln := HLn.out
              clear hx
              obtain ⟨fn, tmps, assign, body, hy, hRo⟩ := hY _ (k, x) wr hjy (piece_len HB.out hlt hli)
              dsimp only at hy
              gi_wp2
              refine hRo.mono ?_
              rintro e W3 (⟨rfl, hJ3, hk3⟩ | ⟨rfl, hJx3⟩)
              · rw [piece_snoc HX.out] at hJ3
                have hkk := hide (hky.out.trans hk3)
                gi_wp2
                go_roundw
                case rel => exact ⟨i + 1, by omega, by go_num, hJ3, hkk⟩
                case measure => simp [intOf]; omega
              · rw [piece_snoc HX.out] at hJx3
                gi_wp2
                refine bodyPost_ret (results_none rfl _ _ _) rfl ?_
                exact ⟨⟨_, rfl⟩, .inr ⟨_, (piece_take HB.out _).trans (pieces_prefix p Q (k + 1) 32 (by omega)), hJx3⟩⟩
            · obtain rfl : i = (Q k).length := by omega
              rw [piece_all HB.out] at hjy
              gi_wp2
              go_roundw
              case rel => exact ⟨k + 1, by omega, by omega, by go_num, hjy, hky⟩
              case measure => simp [intOf]; omega
        · have d16 : ¬ (16 : Int) ≤ (k : Int) := by omega
          have d16b : decide ((16 : Int) ≤ (k : Int)) = false := decide_eq_false d16
          have HQk := HQ.out k (by omega)
          have hk8 : Kpx X N W (wr.alloc (.cells #[.int .i64 0] 2)) := hk.out.trans (Kpx.only0 ((Only.refl [] wr).alloc _) (by omega))
          have hj8 := ab_only0 hJ hj ((Only.refl [] wr).alloc (.cells #[.int .i64 0] 2))
          have cb := ((Blk.new wr 2 #[.int .i64 0]).cell 0).trans (rfl : (#[Value.int .i64 0])[0]? = _)
          gi_wp2
          generalize wr.alloc (.cells #[.int .i64 0] 2) = w8 at hk8 hj8 cb ⊢
          have hk8 := hide hk8
          gi_loopw [36] (fun vi wy => ∃ i : Nat, i ≤ 1 ∧ vi = .int .i64 i ∧ (i = 0 → wy.cell? ⟨wr.heap.size, 0, none⟩ = some (.int .i64 0)) ∧ J (pieces p Q k ++ ((Q k).take i).map (fun v => (k, v))) wy ∧ Hid (Kpx X N W wy)) (fun vi _ => 1 - (intOf vi).toNat)
          case atStart => exact ⟨0, Nat.zero_le _, rfl, fun _ => cb, by simpa using hj8, hk8⟩
          case round =>
            obtain ⟨i, hi, rfl, hcb, hjy, hky⟩ := hrel
            by_cases hli : i < 1
            · obtain rfl : i = 0 := by omega
              obtain ⟨x, hx, ex⟩ : ∃ x, (Q k)[0]? = some x ∧ x = 0 := ⟨0, by rw [HQk]; rfl, rfl⟩
              have a0 := hcb rfl
              have HX := hide hx
              have hl0 : 0 < (Q k).length := by rw [HQk]; simp
              rw [← ex] at a0
              have EX := hide ex
              clear hx hcb ex
              obtain ⟨fn, tmps, assign, body, hy, hRo⟩ := hY _ (k, x) wr hjy (piece_len HB.out hlt hl0)
              dsimp only at hy
              gi_wp2
              refine hRo.mono ?_
              rintro e W3 (⟨rfl, hJ3, hk3⟩ | ⟨rfl, hJx3⟩)
              · rw [piece_snoc HX.out] at hJ3
                have hkk := hide (hky.out.trans hk3)
                gi_wp2
                go_roundw
                case rel => exact ⟨1, by omega, rfl, fun h => by omega, hJ3, hkk⟩
                case measure => simp [intOf]
              · rw [piece_snoc HX.out] at hJx3
                gi_wp2
                refine bodyPost_ret (results_none rfl _ _ _) rfl ?_
                exact ⟨⟨_, rfl⟩, .inr ⟨_, (piece_take HB.out _).trans (pieces_prefix p Q (k + 1) 32 (by omega)), hJx3⟩⟩
            · obtain rfl : i = 1 := by omega
              have e1 := piece_all (Q := Q) HB.out
              rw [show (Q k).length = 1 by rw [HQk]; rfl] at e1
              rw [e1] at hjy
              gi_wp2
              go_roundw
              case rel => exact ⟨k + 1, by omega, by omega, by go_num, hjy, hky⟩
              case measure => simp [intOf]; omega
      · rw [if_neg hbit] at z2
        have HNB := hide hbit
        have hno : p.testBit k = false := by simpa using hbit
        have cb := ((Blk.new wr 2 #[.int .i64 0]).cell 0).trans (rfl : (#[Value.int .i64 0])[0]? = _)
        have hk8 : Kpx X N W (wr.alloc (.cells #[.int .i64 0] 2)) := hk.out.trans (Kpx.only0 ((Only.refl [] wr).alloc _) (by omega))
        have hj8 := ab_only0 hJ hj ((Only.refl [] wr).alloc (.cells #[.int .i64 0] 2))
        rw [← piece_no (Q := Q) hno] at hj8
        clear hbit hno
        obtain ⟨b16, d16⟩ : ∃ b, decide ((16 : Int) ≤ (k : Int)) = b := ⟨_, rfl⟩
        cases b16
        all_goals
          gi_wp2
          generalize wr.alloc (.cells #[.int .i64 0] 2) = w8 at hk8 hj8 cb ⊢
          have hk8' := hide hk8
          clear hk8
          gi_loopw [36] (fun vi wy => ∃ i : Nat, i ≤ 1 ∧ vi = .int .i64 i ∧ w8 = wy) (fun vi _ => 1 - (intOf vi).toNat)
          case atStart => exact ⟨0, Nat.zero_le _, rfl, rfl⟩
          case round =>
            obtain ⟨i, hi, rfl, hw⟩ := hrel
            obtain rfl := hw
            by_cases hli : i < 1
            · obtain rfl : i = 0 := by omega
              gi_wp2
              refine ⟨fun f h => (by cases h), ?_⟩
              gi_wp2
              go_roundw
              case rel => exact ⟨1, by omega, rfl, trivial⟩
              case measure => simp [intOf]
            · obtain rfl : i = 1 := by omega
              gi_wp2
              go_roundw
              case rel => exact ⟨k + 1, by omega, by omega, by go_num, hj8, hk8'⟩
              case measure => simp [intOf]; omega
    · obtain rfl : k = 32 := by omega
      gi_wp2
      go_end0
      exact ⟨⟨_, rfl⟩, .inl ⟨_, rfl, hj⟩⟩
end Go.Proofs.Ytnmlcijkggfhmaa
