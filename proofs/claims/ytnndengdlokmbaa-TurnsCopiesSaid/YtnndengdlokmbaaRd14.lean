/- Ready lists: All, an iterator: its contract. Condition: the list lies. -/
import Derived.Test.YtnndengdlokmbaaRd13
import Derived.RangeFuncNested
import Derived.RangeFuncBound
import Derived.RangeFuncCalls
import Derived.RangeFuncLeaves
import Derived.Shelf.Abstract
import Derived.Shelf.RegionOpen
import Derived.WalkKit
import Derived.OwnWalkIn
import Derived.TacticsInMore
import Derived.LoopNIn
import Derived.LoopIn
import Derived.Laws.BitsAllLaws
namespace Go.Proofs.Ytnndengdlokmbaa
open Go.RowKit Go.Shelf
set_option linter.unusedVariables false
set_option linter.all false
set_option maxRecDepth 100000
attribute [local go_sem] Oper.semAt_some

/-- What a round keeps: the cells of these blocks. -/
def Kps (K : List Nat) (A B : World) : Prop := A.heap.size ≤ B.heap.size ∧ ∀ (k : Nat) (cs : Array Value) (t : TypeId) (q : Nat × Nat), k ∈ K → A.heap[k]? = some (.cells cs t q) → B.heap[k]? = some (.cells cs t q)
section
variable {K : List Nat} {A B C : World}
theorem Kps.refl (K : List Nat) (A : World) : Kps K A A := ⟨Nat.le_refl _, fun _ _ _ _ _ h => h⟩
theorem Kps.trans (h : Kps K A B) (k : Kps K B C) : Kps K A C := ⟨Nat.le_trans h.1 k.1, fun i cs t q hi hc => k.2 i cs t q hi (h.2 i cs t q hi hc)⟩
theorem Kps.putObj (W : World) (l : Nat) (o o' : Obj) (h : W.heap[l]? = some o) (hc : o.isCells = false) : Kps K W (W.putObj l o') := by
  refine ⟨(grownBy_putObj' W l o').size, fun k cs t q hk hh => ?_⟩
  have : k ≠ l := by rintro rfl; rw [h] at hh; cases hh; simp [Obj.isCells] at hc
  exact (World.putObj_heap_other (by omega)).trans hh
theorem Kps.blk {g : Nat} {t : TypeId} {cs : Array Value} (h : Kps K A B) (hg : g ∈ K) (hb : Blk A g t cs) : Blk B g t cs := h.2 g cs t (0, 0) hg hb
theorem Kps.below {n : Nat} (h : Below n A B) (hK : ∀ k ∈ K, k < n) (hs : A.heap.size ≤ B.heap.size) : Kps K A B := ⟨hs, fun k cs t q hk hh => (h.block k (hK k hk)).trans hh⟩
theorem Kps.only {S : List Nat} (h : Only S A B) (hK : ∀ k ∈ K, k ∉ S) : Kps K A B := ⟨h.size, fun k cs t q hk hh => (h.block k (Array.getElem?_eq_some_iff.1 hh).1 (hK k hk)).trans hh⟩
end
/-- How many are left from a link on. -/
def rem (l : List Nat) (v : Int) : Nat := if v = -1 then 0 else l.length - l.idxOf v.toNat
theorem rem_at {l : List Nat} (hn : l.Nodup) (i : Nat) (hi : i ≤ l.length) : rem l (atI l i) = l.length - i := by
  unfold rem
  by_cases h : i < l.length
  · rw [atI_some (List.getElem?_eq_getElem h), if_neg (neg_ne _), Int.toNat_natCast, hn.idxOf_getElem i h]
  · rw [atI_none (by omega), if_pos rfl]; omega

set_option maxHeartbeats 4000000 in
theorem all1_in (n l g bx : Nat) (hn : 1 ≤ n) (s : RS) (prio : Nat → Int) (bits : Nat) (q : Nat → List Nat) (st : Int) (J Jx : List (Nat × Nat) → World → Prop) (W : World) (hJ : AbidesFrom W.heap.size J)
    (hY : ∀ pre x W1, J pre W1 → pre.length < (allQ q).length → YieldAt Fence.wide (n - 1) Try.prog l #[.int .i64 x.1, .int .i64 x.2] W1 fun e W' =>
      (e = .returned (.bool true) ∧ J (pre ++ [x]) W' ∧ Kps [g, bx] W1 W') ∨ (e = .returned (.bool false) ∧ Jx (pre ++ [x]) W'))
    (hb : Blk W bx 55 #[ptr g]) (hB : RB W g s prio bits st) (hR : Rep s prio bits q) (h0 : J [] W) :
    CallsIn Fence.wide n Try.prog 71 #[.func (.yield l) #[] #[], .pointer (some ⟨bx, 0, none⟩)] W fun e W' => (∃ v, e = .returned v) ∧
      ((∃ ys, ys = allQ q ∧ J ys W') ∨ (∃ pre, pre <+: allQ q ∧ Jx pre W')) := by
  obtain ⟨cs, hBl, hC⟩ := hB
  have c0 : W.cell? ⟨bx, 0, none⟩ = some (.pointer (some ⟨g, 0, none⟩)) := (hb.cell 0).trans rfl
  have k0 : W.cell? ⟨g, 0, none⟩ = some (.bool true) := (hBl.cell 0).trans hC.made
  have k1 : W.cell? ⟨g, 1, none⟩ = some (.int .u32 bits) := (hBl.cell 1).trans hC.some_
  have TH := hide (there_any g true W k0)
  unfold ptr at TH
  refine callsIn_of_wp Try.func71 rfl trivial ?_ rfl
  simp only [Try.ntmps71, List.size_toArray, List.length_cons, List.length_nil, Nat.reduceAdd, Nat.reduceSub, Array.replicate_succ, Array.replicate_zero, List.push_toArray, List.append_toArray, List.nil_append, List.cons_append]
  gi_wp2_with (first
    | (refine ⟨trivial, ?_⟩; gi_at_call 62; refine (callsIn_wide.2 TH.out).mono ?_; rintro e w' ⟨rfl, hw⟩; obtain rfl := hw.symm; clear hw))
  have hBl0 := hide hBl
  have HC := hide hC
  have HR := hide hR
  have hmod := hR.bits_mod
  clear hBl hC hR k0 k1 c0
  gi_loopw [3, 4, 5] (fun vs _ _ wr => ∃ (P : Nat) (ds : List (Nat × Nat)), P ≤ 32 ∧ vs = .int .u32 ((bits % 2 ^ P : Nat) : Int) ∧ allQ q = ds ++ below q P ∧ J ds wr ∧ Kps [g, bx] W wr) (fun vs _ _ _ => (intOf vs).toNat)
  case atStart => exact ⟨32, [], Nat.le_refl _, by rw [hmod], rfl, h0, Kps.refl _ _⟩
  case round =>
    obtain ⟨P, ds, hP, rfl, hds, hj, hk⟩ := hrel
    rcases HR.out.bits_top P hP with ⟨e0, e1⟩ | ⟨p, p1, p2, p3, p4, p5, p6, p7, p8, p9⟩
    · rw [e0]
      gi_wp2
      go_end0
      rw [e1, List.append_nil] at hds
      exact ⟨⟨_, rfl⟩, .inl ⟨_, rfl, hds ▸ hj⟩⟩
    · have hlt : bits % 2 ^ P < 4294967296 := Nat.lt_of_le_of_lt (Nat.mod_le _ _) HR.out.bits_lt
      have g1 : (((bits % 2 ^ P : Nat) : Int) == 0) = false := by simp only [beq_eq_false_iff_ne, ne_eq]; omega
      obtain ⟨m, hm⟩ : ∃ m, bits % 2 ^ P = m := ⟨_, rfl⟩
      rw [hm] at hlt g1 p4 p7 p9 ⊢
      clear p8
      have c0 : wr.cell? ⟨bx, 0, none⟩ = some (.pointer (some ⟨g, 0, none⟩)) := ((hk.blk (by simp) hb).cell 0).trans rfl
      have hBr := hk.blk (by simp) hBl0.out
      have k2 : wr.cell? ⟨g, 2 + p, none⟩ = some (.int .i64 (s.head p)) := (hBr.cell (2 + p)).trans (HC.out.head p (by omega))
      have q3 : (0 : Int) ≤ (p : Int) := by omega
      have q4 : (p : Int) < 32 := by omega
      have LN := hide (len_at m p hlt p4 wr)
      have hD := (HR.out.dl p p2 p3).head
      rw [hD] at k2
      have H7 := hide p7
      have H9 := hide p9
      have H6 := hide p6
      have H5 := hide p5
      clear p4 p5 p6 p7 p9 hD hBr
      gi_wp2_with (first
        | (refine ⟨trivial, ?_⟩; gi_at_call 63; refine (callsIn_wide.2 LN.out).mono ?_; rintro e w1 ⟨rfl, hw⟩; obtain rfl := hw))
      have hmv : Go.bits BinOp.andNot IntKind.u32 (m : Int) ((2 : Int) ^ p % 4294967296) = ((bits % 2 ^ p : Nat) : Int) := by
        have h2' : (2 : Nat) ^ p < 4294967296 := Nat.lt_of_le_of_lt (Nat.pow_le_pow_right (by omega) p3) (by decide)
        rw [show (2 : Int) ^ p = ((2 ^ p : Nat) : Int) from (Int.natCast_pow 2 p).symm, Int.emod_eq_of_lt (Int.natCast_nonneg _) (by omega), u32_andNot_nat m (2 ^ p) hlt h2']
        have h7 := H7.out
        rw [Nat.one_shiftLeft] at h7
        rw [h7]
      rw [hmv]
      obtain ⟨m', hm'⟩ : ∃ m', bits % 2 ^ p = m' := ⟨_, rfl⟩
      rw [hm']
      have HM' := hide hm'
      clear hmv k2 c0 hm'
      have HH := hide (show Kps [g, bx] W wr from hk)
      clear hk
      gi_loopw [5] (fun vt wy => ∃ A R : List Nat, q p = A ++ R ∧ vt = .int .i64 (atI (q p) A.length) ∧ J (ds ++ A.map (fun t => (p, t))) wy ∧ Kps [g, bx] W wy) (fun vt _ => rem (q p) (intOf vt))
      case atStart => exact ⟨[], q p, rfl, rfl, by simpa using hj, HH.out⟩
      case round =>
        obtain ⟨A, R, hq, rfl, hjy, hky⟩ := hrel
        have hnd := HR.out.nd p
        have HQ := hide hq
        clear hq
        cases R with
        | nil =>
          have hA : atI (q p) A.length = -1 := atI_none (by rw [HQ.out]; simp)
          rw [hA]
          gi_wp2
          go_roundw
          case rel =>
            refine ⟨p, ds ++ A.map (fun t => (p, t)), by omega, by rw [HM'.out], ?_, hjy, hky⟩
            rw [hds, H6.out, HQ.out]; simp
          case measure =>
            show ((m' : Nat) : Int).toNat < ((m : Nat) : Int).toNat
            rw [Int.toNat_natCast, Int.toNat_natCast, ← HM'.out]
            exact H9.out
        | cons t R =>
          have hA : atI (q p) A.length = (t : Int) := atI_some (by rw [HQ.out]; simp)
          have ht16 : t < 16 := HR.out.lt p t (by rw [HQ.out]; simp)
          have hlen : (ds ++ A.map (fun t => (p, t))).length < (allQ q).length := by rw [hds, H6.out, HQ.out]; simp
          obtain ⟨fn, tmps, assign, body, hy, hRo⟩ := hY _ (p, t) wr hjy hlen
          dsimp only at hy
          have gt : ((t : Int) == -1) = false := by simp
          have gt2 : ((t : Int) != -1) = true := by simp
          have t0 : (0 : Int) ≤ (t : Int) := by omega
          have t1 : (t : Int) < 16 := by omega
          rw [hA]
          gi_wp2
          refine hRo.mono ?_
          rintro e W3 (⟨rfl, hJ3, hk3⟩ | ⟨rfl, hJx3⟩)
          · have hkk := hky.trans hk3
            have c3 : W3.cell? ⟨bx, 0, none⟩ = some (.pointer (some ⟨g, 0, none⟩)) := ((hkk.blk (by simp) hb).cell 0).trans rfl
            have hB3 := hkk.blk (by simp) hBl0.out
            have hnx := (HR.out.dl p p2 p3).next A.length t (by rw [HQ.out]; simp)
            have k3 : W3.cell? ⟨g, 66 + t, none⟩ = some (.int .i64 (atI (q p) (A.length + 1))) := (hB3.cell (66 + t)).trans ((HC.out.next t ht16).trans (by rw [hnx]))
            clear hB3
            gi_wp2
            go_roundw
            case rel => exact ⟨A ++ [t], R, by rw [HQ.out]; simp, by simp, by simpa using hJ3, hkk⟩
            case measure =>
              rw [← hA]
              show rem (q p) (atI (q p) (A.length + 1)) < rem (q p) (atI (q p) A.length)
              have hl : (q p).length = A.length + (R.length + 1) := by rw [HQ.out]; simp
              rw [rem_at hnd _ (by omega), rem_at hnd _ (by omega)]
              omega
          · gi_wp2
            refine bodyPost_ret (results_none rfl _ _ _) rfl ?_
            refine ⟨⟨_, rfl⟩, .inr ⟨_, ?_, hJx3⟩⟩
            rw [hds, H6.out, HQ.out]
            exact ⟨R.map (fun t => (p, t)) ++ below q p, by simp⟩
/-- All's iterator, its contract. -/
theorem all_stops (n g bx : Nat) (hn : 1 ≤ n) (q : Nat → List Nat) (st : Int) (w : World) (hb : Blk w bx 55 #[ptr g]) (h : RL w g q st) :
    SeqStopsK Fence.wide n Try.prog 71 #[.pointer (some ⟨bx, 0, none⟩)] (fun x : Nat × Nat => #[Value.int .i64 x.1, Value.int .i64 x.2]) (Kps [g, bx]) (fun ys => ys = allQ q) (fun pre => pre <+: allQ q) (allQ q).length w := by
  obtain ⟨s, prio, bits, ⟨cs, hB, hC⟩, hR⟩ := h
  intro l J Jx W hW hJ hJx hY h0
  exact all1_in n l g bx hn s prio bits q st J Jx W hJ hY (hb.below hW hb.lt) ⟨cs, hB.below hW hB.lt, hC⟩ hR h0
theorem all_any (g : Nat) (w : World) : Calls Try.prog 64 #[ptr g] w fun e w' => e = .returned (.func (.func 71) #[] #[.pointer (some ⟨w.heap.size, 0, none⟩)]) ∧ w' = w.alloc (.cells #[ptr g] 55) := by
  unfold ptr
  go_enter Try.func64, Try.ntmps64
  go_wp2_with fail
  go_ret
  exact ⟨rfl, rfl⟩
end Go.Proofs.Ytnndengdlokmbaa
