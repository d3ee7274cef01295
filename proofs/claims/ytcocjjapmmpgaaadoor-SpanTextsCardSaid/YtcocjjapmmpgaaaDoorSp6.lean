/- Spans: digits, an iterator over a text's digits: its contract. Condition: the text lies in its box. -/
import Derived.Test.YtcocjjapmmpgaaaDoorSp5
import Derived.RangeFuncNested
import Derived.RangeFuncBound
import Derived.RangeFuncCalls
import Derived.RangeFuncLeaves
import Derived.Shelf.Abstract
import Derived.Shelf.RegionOpen
import Derived.WalkKit
import Derived.OwnWalkIn
import Derived.TacticsInMore
import Derived.LoopNIn
import Derived.LoopIn
import Derived.Lib.ConvBytes
namespace Go.Proofs.YtcocjjapmmpgaaaDoor
open Go.RowKit Go.Shelf
set_option linter.unusedVariables false
set_option linter.all false
set_option maxRecDepth 100000
attribute [local go_sem] Oper.semAt_some

abbrev Dig := { x : Int // 0 ≤ x ∧ x ≤ 9 }
def digs : List UInt8 → List Dig
  | [] => []
  | c :: r => if h : 48 ≤ c.toNat ∧ c.toNat ≤ 57 then ⟨(c.toNat : Int) - 48, by omega⟩ :: digs r else []
theorem digs_yes {c : UInt8} (r : List UInt8) (h : 48 ≤ c.toNat ∧ c.toNat ≤ 57) : digs (c :: r) = ⟨(c.toNat : Int) - 48, by omega⟩ :: digs r := dif_pos h
theorem digs_no {c : UInt8} (r : List UInt8) (h : ¬ (48 ≤ c.toNat ∧ c.toNat ≤ 57)) : digs (c :: r) = [] := dif_neg h
/-- What a round keeps: whatever cells lie, but for block L. -/
def Cls (L : Nat) (A B : World) : Prop := A.heap.size ≤ B.heap.size ∧ ∀ (k : Nat) (cs : Array Value) (t : TypeId) (q : Nat × Nat), k ≠ L → A.heap[k]? = some (.cells cs t q) → B.heap[k]? = some (.cells cs t q)
theorem Cls.trans {L : Nat} {A B C : World} (h : Cls L A B) (k : Cls L B C) : Cls L A C := ⟨Nat.le_trans h.1 k.1, fun i cs t q hi hc => k.2 i cs t q hi (h.2 i cs t q hi hc)⟩
theorem Cls.putObj {L : Nat} {B : Nat} (W : World) (l : Nat) (o o' : Obj) (_ : B ≤ l) (h : W.heap[l]? = some o) (hc : o.isCells = false) (_ : o.isWalk = false) : Cls L W (W.putObj l o') := by
  refine ⟨(grownBy_putObj' W l o').size, fun k cs t q hk hh => ?_⟩
  have : k ≠ l := by rintro rfl; rw [h] at hh; cases hh; simp [Obj.isCells] at hc
  exact (World.putObj_heap_other (by omega)).trans hh
theorem Cls.cells {L k : Nat} {A B : World} {cs : Array Value} {t : TypeId} {q : Nat × Nat} (h : Cls L A B) (hk : k ≠ L) (hc : A.heap[k]? = some (.cells cs t q)) : B.heap[k]? = some (.cells cs t q) := h.2 k cs t q hk hc
theorem Cls.setCell (L : Nat) (W : World) (p : Addr) (v : Value) (hp : p.block = L) : Cls L W (W.setCell p v) := by
  refine ⟨by simp, fun k cs t q hk hh => ?_⟩
  rw [Below.heap_setCell W p v k (by rw [hp]; exact hk)]; exact hh
theorem Cls.of_only {L : Nat} {W W' : World} (h : Only [] W W') : Cls L W W' := ⟨h.size, fun k cs t q _ hh => (h.block k (by
  rcases Nat.lt_or_ge k W.heap.size with q | q
  · exact q
  · rw [Array.getElem?_eq_none q] at hh; cases hh) (by simp)).trans hh⟩
theorem bytesWorld_grown (w : World) (e : TypeId) (s : ByteArray) : w.grownBy (Lib.bytesWorld w e s) none :=
  ⟨rfl, rfl, rfl, by rw [Lib.bytesWorld_size]; omega, fun k hk _ => Lib.bytesWorld_at_old w e s k hk⟩

set_option maxHeartbeats 2000000 in
theorem digits1_in (F : Fence) (n : Nat) (h37 : F.fn 37) (hro : F.round = none) (hn : 1 ≤ n) (l Bs L : Nat) (t : ByteArray) (hsz : t.size ≤ 20) (J Jx : List Dig → World → Prop) (W : World) (hJ : AbidesFrom W.heap.size J)
    (hY : ∀ pre x W1, J pre W1 → pre.length < t.size → YieldAt F (n - 1) Tryd.prog l #[.int .i64 x.1] W1 fun e W' =>
      (e = .returned (.bool true) ∧ J (pre ++ [x]) W' ∧ Cls L W1 W') ∨ (e = .returned (.bool false) ∧ Jx (pre ++ [x]) W'))
    (hc : W.cell? ⟨Bs, 0, none⟩ = some (.string t)) (hLW : L < W.heap.size) (h0 : J [] W) :
    CallsIn F n Tryd.prog 37 #[.func (.yield l) #[] #[], .pointer (some ⟨Bs, 0, none⟩)] W fun e W' => (∃ v, e = .returned v) ∧
      ((∃ ys, ys = digs t.data.toList ∧ J ys W') ∨ (∃ pre, pre <+: digs t.data.toList ∧ Jx pre W')) := by
  refine callsIn_of_wp Tryd.func37 rfl h37 ?_ hro
  simp only [Tryd.ntmps37, List.size_toArray, List.length_cons, List.length_nil, Nat.reduceAdd, Nat.reduceSub, Array.replicate_succ, Array.replicate_zero, List.push_toArray, List.append_toArray, List.nil_append, List.cons_append]
  have hcv := Lib.run_convert_string_bytes (P := Tryd.prog) W 9 62 5 t Tryd.underlying9 Tryd.underlying62 Tryd.underlying5
  have hj0 : J [] (Lib.bytesWorld W 5 t) := hJ _ _ _ none h0 (bytesWorld_grown W 5 t) (fun r e => by cases e)
  have hbl := Lib.bytesWorld_at_new W 5 t
  have hT : t.data.toList.length = t.size := rfl
  have hcell : ∀ {V : World}, V.heap[W.heap.size]? = some (.cells (Lib.bytesCells W 5 t) 5 ((Lib.bytesCells W 5 t).size, (Lib.bytesCells W 5 t).size + 1)) → ∀ j, j < t.size → V.cell? ⟨W.heap.size, j, none⟩ = some (.int .u8 (t.data.toList.getD j 0).toNat) := fun {V} hV j hj => by
    have h1 := Lib.bytesWorld_cell W 5 t j hj
    have h2 : V.cell? ⟨W.heap.size, j, none⟩ = (Lib.bytesWorld W 5 t).cell? ⟨W.heap.size, j, none⟩ := by simp only [World.cell?, hV, hbl]
    exact h2.trans h1
  obtain ⟨V, hV⟩ : ∃ V, Lib.bytesWorld W 5 t = V := ⟨_, rfl⟩
  obtain ⟨cs, hcs⟩ : ∃ cs, Lib.bytesCells W 5 t = cs := ⟨_, rfl⟩
  obtain ⟨cap, hcap⟩ : ∃ cap, grownCap W t.size 0 5 = cap := ⟨_, rfl⟩
  rw [hV, hcap] at hcv
  rw [hV] at hj0 hbl
  rw [hcs] at hbl hcell
  clear hV hcs hcap
  gi_wp2
  gi_loopw [8] (fun i wr => ∃ (A R : List UInt8) (ds : List Dig), t.data.toList = A ++ R ∧ i = .int .i64 A.length ∧ ds.length = A.length ∧ digs t.data.toList = ds ++ digs R ∧ J ds wr ∧ wr.heap[W.heap.size]? = some (.cells cs 5 (cs.size, cs.size + 1)))
    (fun i _ => t.size - (intOf i).toNat)
  case atStart => exact ⟨[], _, [], rfl, rfl, rfl, rfl, hj0, hbl⟩
  case round =>
    obtain ⟨A, R, ds, hAR, rfl, hlen, hd, hJs, hblk⟩ := hrel
    cases R with
    | nil =>
      have hk : A.length = t.size := by rw [← hT, hAR]; simp
      rw [hk]
      gi_wp2
      go_end0
      exact ⟨⟨_, rfl⟩, .inl ⟨_, rfl, by rw [hd]; simpa [digs] using hJs⟩⟩
    | cons c R =>
      have hk : A.length < t.size := by rw [← hT, hAR]; simp
      have hcx := hcell hblk A.length hk
      rw [show t.data.toList.getD A.length 0 = c by rw [hAR]; simp [List.getD]] at hcx
      have hc8 : c.toNat < 256 := c.toNat_lt
      by_cases hdig : 48 ≤ c.toNat ∧ c.toNat ≤ 57
      · rw [digs_yes R hdig] at hd
        obtain ⟨fn, tmps, assign, body, hy, hR⟩ := hY ds ⟨(c.toNat : Int) - 48, by omega⟩ wr hJs (by omega)
        dsimp only at hy
        have g1 : decide ((c.toNat : Int) < 48) = false := by simp; omega
        have g2 : decide ((57 : Int) < (c.toNat : Int)) = false := by simp; omega
        have g3 : IntKind.u8.wrap ((c.toNat : Int) - 48) = (c.toNat : Int) - 48 := by rw [IntKind.wrap_u8]; omega
        have g4 : IntKind.i64.wrap ((c.toNat : Int) - 48) = (c.toNat : Int) - 48 := IntWalk.i64_in _ (by omega)
        gi_wp2
        refine hR.mono ?_
        rintro e W3 (⟨rfl, hJ3, hk3⟩ | ⟨rfl, hJx3⟩)
        · have hblk3 := hk3.cells (by omega) hblk
          gi_wp2
          go_roundw
          case rel => exact ⟨A ++ [c], R, ds ++ [⟨(c.toNat : Int) - 48, by omega⟩], by simp [hAR], by simp, by simp [hlen], by rw [hd]; simp, hJ3, hblk3⟩
          case measure => simp [intOf]; omega
        · gi_wp2
          refine bodyPost_ret (results_none rfl _ _ _) rfl ?_
          exact ⟨⟨_, rfl⟩, .inr ⟨_, ⟨digs R, by rw [hd]; simp⟩, hJx3⟩⟩
      · rw [digs_no R hdig] at hd
        by_cases hlo : c.toNat < 48
        · have g1 : decide ((c.toNat : Int) < 48) = true := by simp; omega
          gi_wp2
          refine ⟨fun _ h => (by cases h), ?_⟩
          gi_wp2
          refine bodyPost_ret (results_none rfl _ _ _) rfl ?_
          exact ⟨⟨_, rfl⟩, .inl ⟨_, rfl, by rw [hd]; simpa using hJs⟩⟩
        · have g1 : decide ((c.toNat : Int) < 48) = false := by simp; omega
          have g2 : decide ((57 : Int) < (c.toNat : Int)) = true := by simp; omega
          gi_wp2
          refine ⟨fun _ h => (by cases h), ?_⟩
          gi_wp2
          refine bodyPost_ret (results_none rfl _ _ _) rfl ?_
          exact ⟨⟨_, rfl⟩, .inl ⟨_, rfl, by rw [hd]; simpa using hJs⟩⟩
theorem digits_stops (F : Fence) (n : Nat) (h37 : F.fn 37) (hro : F.round = none) (hn : 1 ≤ n) (Bs L : Nat) (t : ByteArray) (hsz : t.size ≤ 20) (w : World) (hc : w.cell? ⟨Bs, 0, none⟩ = some (.string t)) (hB : Bs < w.heap.size) (hL : L < w.heap.size) :
    SeqStopsK F n Tryd.prog 37 #[.pointer (some ⟨Bs, 0, none⟩)] (fun x : Dig => #[Value.int .i64 x.1]) (Cls L) (fun ys => ys = digs t.data.toList) (fun pre => pre <+: digs t.data.toList) t.size w :=
  fun l J Jx W hW hJ hJx hY h0 => digits1_in F n h37 hro hn l Bs L t hsz J Jx W hJ hY ((hW.cell (p := ⟨Bs, 0, none⟩) hB).trans hc) (Nat.lt_of_lt_of_le hL hW.size) h0
theorem digits_any (F : Fence) (n : Nat) (h34 : F.fn 34) (hro : F.round = none) (t : ByteArray) (w : World) :
    CallsIn F n Tryd.prog 34 #[.string t] w fun e w' => e = .returned (.func (.func 37) #[] #[.pointer (some ⟨w.heap.size, 0, none⟩)]) ∧ w' = w.alloc (.cells #[.string t] 9) := by
  refine callsIn_of_wp Tryd.func34 rfl h34 ?_ hro
  simp only [Tryd.ntmps34, List.size_toArray, List.length_cons, List.length_nil, Nat.reduceAdd, Nat.reduceSub, Array.replicate_succ, Array.replicate_zero, List.push_toArray, List.append_toArray, List.nil_append, List.cons_append]
  gi_wp2
  go_ret
  exact ⟨rfl, rfl⟩
end Go.Proofs.YtcocjjapmmpgaaaDoor
