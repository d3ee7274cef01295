/- Code: the ops' words, collected, and the place of a word among them. No condition. -/
import Derived.Test.YteblhklclcjonaaGreatDoorCd6
import Derived.Shelf.SlIter.Collect
import Derived.Shelf.SlicesE.IndexFunc
import Derived.RangeFuncCalls
import Derived.RangeFuncLeaves
import Derived.RangeFuncNested
import Derived.TacticsInMore
namespace Go.Proofs.YteblhklclcjonaaGreatDoor
open Go.RowKit Go.Shelf Go.BigFrame
set_option linter.unusedVariables false
set_option linter.all false
set_option maxRecDepth 2000000
attribute [local go_sem] Oper.semAt_some

def renC : Go.Shelf.Ren := ⟨fun | 8 => 102 | 11 => 122 | n => n, fun | 0 => 0 | 24 => 50 | 26 => 9 | 28 => 178 | 33 => 117 | 4 => 4 | 3 => 3 | n => n, fun | n => n⟩
theorem laysC : Go.Proofs.SlLaysZ.n8 Tryz.prog renC := {
  mixed := by kernel_rfl
  f8 := ⟨"slices.Collect[string]", by decide, Tryz.func102.trans (congrArg some (by kernel_rfl))⟩
  f11 := ⟨"slices.AppendSeq[[]string,string]", by decide, Tryz.func122.trans (congrArg some (by kernel_rfl))⟩
  t0 := Tryz.underlying0
  a0 := Tryz.isAgg0
  z0 := Tryz.sizeOf0
  v0 := Tryz.zeroValue0
  t24 := Tryz.underlying50
  a24 := Tryz.isAgg50
  z24 := Tryz.sizeOf50
  v24 := Tryz.zeroValue50
  t26 := Tryz.underlying9
  a26 := Tryz.isAgg9
  z26 := Tryz.sizeOf9
  v26 := Tryz.zeroValue9
  t28 := Tryz.underlying178
  a28 := Tryz.isAgg178
  z28 := Tryz.sizeOf178
  v28 := Tryz.zeroValue178
  i26 := info9 }
def renI : Go.Shelf.Ren := ⟨fun | 6 => 94 | n => n, fun | 0 => 0 | 3 => 3 | 4 => 4 | 22 => 50 | 23 => 9 | 25 => 117 | n => n, fun | n => n⟩
theorem laysI : Go.Proofs.SlLaysH.n6 Tryz.prog renI := {
  mixed := by kernel_rfl
  f6 := ⟨"slices.IndexFunc[[]string,string]", by decide, Tryz.func94.trans (congrArg some (by kernel_rfl))⟩
  t0 := Tryz.underlying0
  a0 := Tryz.isAgg0
  z0 := Tryz.sizeOf0
  v0 := Tryz.zeroValue0
  t3 := Tryz.underlying3
  a3 := Tryz.isAgg3
  z3 := Tryz.sizeOf3
  v3 := Tryz.zeroValue3
  t4 := Tryz.underlying4
  a4 := Tryz.isAgg4
  z4 := Tryz.sizeOf4
  v4 := Tryz.zeroValue4
  t22 := Tryz.underlying50
  a22 := Tryz.isAgg50
  z22 := Tryz.sizeOf50
  v22 := Tryz.zeroValue50
  a23 := Tryz.isAgg9
  z23 := Tryz.sizeOf9
  t25 := Tryz.underlying117
  a25 := Tryz.isAgg117
  z25 := Tryz.sizeOf117
  v25 := Tryz.zeroValue117 }
def nms : List (List UInt8) := (List.range 9).map nmB
theorem words_in (n : Nat) (hn : 1 ≤ n) (l : Nat) (J : List (List UInt8) → World → Prop) (W : World) (hJ : AbidesFrom W.heap.size J)
    (hY : ∀ pre x W1, J pre W1 → pre.length < 9 → YieldAt Fence.wide (n - 1) Tryz.prog l #[encStr x] W1 fun e W' => e = .returned (.bool true) ∧ J (pre ++ [x]) W' ∧ KeepsWalks W1 W') (h0 : J [] W) :
    CallsIn Fence.wide n Tryz.prog 103 #[.func (.yield l) #[] #[]] W fun e W' => (∃ v, e = .returned v) ∧ ∃ ss, ss = nms ∧ J ss W' := by
  refine callsIn_of_wp Tryz.func103 rfl trivial ?_ rfl
  simp only [Tryz.ntmps103, List.size_toArray, List.length_cons, List.length_nil, Nat.reduceAdd, Nat.reduceSub, Array.replicate_succ, Array.replicate_zero, List.push_toArray, List.append_toArray, List.nil_append, List.cons_append]
  have OP := hide (fun W => ops_any W)
  gi_wp2_with (refine ⟨trivial, ?_⟩; gi_at_call 119; refine (callsIn_wide.2 (OP.out _)).mono ?_; rintro e w1 ⟨rfl, rfl⟩)
  have HJ1 := hide (show J [] (W.alloc (.cells OPSV 175)) from hJ _ _ _ none h0 (World.grownBy_alloc W _ none) (fun r e => by cases e))
  gi_loopw [5] (fun vk wr => ∃ k : Nat, k ≤ 9 ∧ vk = .int .i64 k ∧ Hid (J ((List.range k).map nmB) wr) ∧ Hid (W.heap.size ≤ wr.heap.size)) (fun vk _ => 9 - (intOf vk).toNat)
  case atStart => exact ⟨0, by omega, rfl, HJ1, hide (by simp)⟩
  case round =>
    obtain ⟨k, hk, rfl, hJk, hsz⟩ := hrel
    by_cases hk9 : k < 9
    · have ix := ops_index k hk9
      unfold opV at ix
      have hs : ByteArray.mk (nmB k).toArray = bs (nmB k) := rfl
      rw [hs] at ix
      obtain ⟨d, hd⟩ : ∃ d, (shp k).d = d := ⟨_, rfl⟩
      obtain ⟨a, ha⟩ : ∃ d, (shp k).a = d := ⟨_, rfl⟩
      obtain ⟨b, hb⟩ : ∃ d, (shp k).b = d := ⟨_, rfl⟩
      obtain ⟨m, hm⟩ : ∃ m : Int, ((shp k).imm : Int) = m := ⟨_, rfl⟩
      rw [hd, ha, hb, hm] at ix
      obtain ⟨nm, hnm⟩ : ∃ nm, bs (nmB k) = nm := ⟨_, rfl⟩
      rw [hnm] at ix
      have i1 : (k : Int) < 9 := by omega
      have HJ2 : J ((List.range k).map nmB) (wr.alloc (.cells #[.string nm, .bool d, .bool a, .bool b, .int .i64 m] 152)) := hJ _ _ _ none hJk.out (World.grownBy_alloc wr _ none) (fun r e => by cases e)
      obtain ⟨fn, tmps, assign, body, hy, hR⟩ := hY _ (nmB k) _ HJ2 (by simp; omega)
      rw [show encStr (nmB k) = .string nm from by rw [← hnm]; rfl] at hy
      have b3 := Blk.new wr 152 #[.string nm, .bool d, .bool a, .bool b, .int .i64 m]
      have x0 := b3.cell 0
      have HR := hide hR
      clear hd ha hb hm hnm hs b3 hR HJ2
      gi_wp2
      refine HR.out.mono ?_
      rintro e W3 ⟨rfl, hJ3, hk3⟩
      have HJ3 := hide hJ3
      have hs3 := hk3.size
      rw [World.size_alloc] at hs3
      have HS3 := hide (show W.heap.size ≤ W3.heap.size by have := hsz.out; omega)
      clear hk3 hJ3
      gi_wp2
      go_roundw
      case rel => exact ⟨k + 1, by omega, by go_num, by rw [List.range_succ, List.map_append]; exact HJ3, HS3⟩
      case measure => simp [intOf]; omega
    · obtain rfl : k = 9 := by omega
      gi_wp2
      go_end0
      exact ⟨⟨_, rfl⟩, _, rfl, hJk.out⟩
theorem words_gives (n : Nat) (hn : 1 ≤ n) (w : World) : SeqGives Fence.wide n Tryz.prog 103 #[] encStr (fun ss => ss = nms) 9 w :=
  fun l J W hW hJ hY h0 => words_in n hn l J W hJ hY h0
theorem collect_any (w : World) : Calls Tryz.prog 102 #[.func (.func 103) #[] #[]] w fun e w' => (∃ A c, e = .returned (.slice A 9 c) ∧ Qs w' w.heap.size A c (nms.map bs)) ∧ Only [] w w' := by
  refine (callsIn_wide (n := 8)).1 ?_
  refine (AnyZ.collect_in laysC Fence.wide 8 trivial trivial rfl (by decide) 103 #[] trivial (enters_of Tryz.func103 (by kernel_rfl) rfl) (fun ss => ss = nms) 9 (by unfold maxLen; omega) (by omega) w (words_gives 6 (by decide) w)).mono ?_
  rintro e w' ⟨v, ss, rfl, rfl, h1, h2, h3⟩
  refine ⟨?_, Only.ofBelow h3⟩
  have hv : ∃ A c, v = .slice A 9 c := by
    rcases h1.2 with ⟨hv, hn⟩ | ⟨g, cap, cur, hv, _⟩
    · exact absurd hn (by decide)
    · exact ⟨_, _, hv⟩
  obtain ⟨A, c, rfl⟩ := hv
  exact ⟨A, c, rfl, h1⟩
theorem bs_eq (a b : List UInt8) : ((bs a).toList == (bs b).toList) = (a == b) := by
  rw [ByteArray.toList_eq, ByteArray.toList_eq, bs_list, bs_list]
theorem idx_op (w : List UInt8) (d : ByteArray) : Lib.idxBy (fun _ (y : ByteArray) => y.toList == (bs w).toList) (nms.map bs) d = opAt w := by
  have e : nms.map bs = [bs (nmB 0), bs (nmB 1), bs (nmB 2), bs (nmB 3), bs (nmB 4), bs (nmB 5), bs (nmB 6), bs (nmB 7), bs (nmB 8)] := rfl
  have e2 : opAt w = match ([0, 1, 2, 3, 4, 5, 6, 7, 8] : List Nat).find? (fun k => nmB k == w) with | some k => (k : Int) | none => -1 := rfl
  rw [e, e2]
  unfold Lib.idxBy
  simp only [Lib.idxByFrom, bs_eq, List.find?]
  cases h0 : nmB 0 == w with
  | true => simp [Lib.idxByFrom, h0]
  | false =>
    cases h1 : nmB 1 == w with
    | true => simp [Lib.idxByFrom, h0, h1]
    | false =>
      cases h2 : nmB 2 == w with
      | true => simp [Lib.idxByFrom, h0, h1, h2]
      | false =>
        cases h3 : nmB 3 == w with
        | true => simp [Lib.idxByFrom, h0, h1, h2, h3]
        | false =>
          cases h4 : nmB 4 == w with
          | true => simp [Lib.idxByFrom, h0, h1, h2, h3, h4]
          | false =>
            cases h5 : nmB 5 == w with
            | true => simp [Lib.idxByFrom, h0, h1, h2, h3, h4, h5]
            | false =>
              cases h6 : nmB 6 == w with
              | true => simp [Lib.idxByFrom, h0, h1, h2, h3, h4, h5, h6]
              | false =>
                cases h7 : nmB 7 == w with
                | true => simp [Lib.idxByFrom, h0, h1, h2, h3, h4, h5, h6, h7]
                | false =>
                  cases h8 : nmB 8 == w with
                  | true => simp [Lib.idxByFrom, h0, h1, h2, h3, h4, h5, h6, h7, h8]
                  | false =>
                    simp [Lib.idxByFrom, h0, h1, h2, h3, h4, h5, h6, h7, h8]
theorem pred_any (x s : ByteArray) (K : Nat) (w : World) (hb : w.cell? ⟨K, 0, none⟩ = some (.string s)) : Calls Tryz.prog 104 #[.string x, .pointer (some ⟨K, 0, none⟩)] w fun e w' => e = .returned (.bool (x.toList == s.toList)) ∧ w' = w := by
  go_enter Tryz.func104, Tryz.ntmps104
  go_wp2_with fail
  go_ret
  exact ⟨rfl, rfl⟩
theorem index_any (l : List UInt8) (K B : Nat) (A : Option Addr) (c : Nat) (w : World) (hb : w.cell? ⟨K, 0, none⟩ = some (.string (bs l))) (hr : Qs w B A c (nms.map bs)) :
    Calls Tryz.prog 94 #[.slice A 9 c, .func (.func 104) #[] #[.pointer (some ⟨K, 0, none⟩)]] w fun e w' => e = .returned (.int .i64 (opAt l)) ∧ Only [] w w' := by
  obtain ⟨g, rfl, h1, h2⟩ := own_cell hr (by decide)
  have hK := World.block_lt_of_cell? w ⟨K, 0, none⟩ hb
  have := AnyE.slices_IndexFunc laysI (α := ByteArray) .string (fun x => x.toList == (bs l).toList) 104 #[.pointer (some ⟨K, 0, none⟩)] (enters_of Tryz.func104 (by kernel_rfl) rfl) g 0 9 c (nms.map bs) w
    (fun W x hW => (pred_any x (bs l) K W ((hW.cell (p := ⟨K, 0, none⟩) hK).trans hb)).mono fun e w' ⟨h3, h4⟩ => ⟨h3, 0, h4⟩) (by decide) (by decide)
    (fun j hj => by
      rw [Nat.zero_add, h1 j (by rw [Nat.mul_one]; exact hj)]
      unfold Strs
      rw [List.getElem?_map, List.getElem?_eq_getElem hj, getElem!_pos (nms.map bs) j hj]
      rfl)
  rw [show (nms.map bs).take 9 = nms.map bs from rfl, idx_op] at this
  exact this.mono fun e w' ⟨h3, q, h4⟩ => ⟨h3, h4 ▸ (Only.refl [] w).drewN q⟩
end Go.Proofs.YteblhklclcjonaaGreatDoor
