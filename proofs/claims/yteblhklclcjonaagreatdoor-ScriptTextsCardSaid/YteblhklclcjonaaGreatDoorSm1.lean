/- Script: Stretches, an iterator: its contract. Condition: the events lie. -/
import Derived.Test.YteblhklclcjonaaGreatDoorSe1
import Derived.RangeFuncNested
import Derived.RangeFuncBound
import Derived.RangeFuncCalls
import Derived.RangeFuncLeaves
import Derived.Shelf.Abstract
import Derived.Shelf.RegionOpen
import Derived.WalkKit
import Derived.OwnWalkIn
import Derived.TacticsInMore
import Derived.LoopNIn
import Derived.LoopIn
import Derived.Scope
import Derived.WalkMore
namespace Go.Proofs.YteblhklclcjonaaGreatDoor
open Go.RowKit Go.Shelf
set_option linter.unusedVariables false
set_option linter.all false
set_option maxRecDepth 100000
attribute [local go_sem] Oper.semAt_some

/-- What a round keeps: the blocks below N. -/
def Kpn (N : Nat) (A B : World) : Prop := A.heap.size ≤ B.heap.size ∧ ∀ k, k < N → B.heap[k]? = A.heap[k]?
section
variable {N : Nat} {A B C : World}
theorem Kpn.refl (N : Nat) (A : World) : Kpn N A A := ⟨Nat.le_refl _, fun _ _ => rfl⟩
theorem Kpn.trans (h : Kpn N A B) (k : Kpn N B C) : Kpn N A C := ⟨Nat.le_trans h.1 k.1, fun i hi => (k.2 i hi).trans (h.2 i hi)⟩
theorem Kpn.only {S : List Nat} (h : Only S A B) (hN : N ≤ A.heap.size) (hS : ∀ x ∈ S, N ≤ x) : Kpn N A B :=
  ⟨h.size, fun k hk => h.block k (by omega) (fun hs => by have := hS k hs; omega)⟩
theorem Kpn.only0 (h : Only [] A B) (hN : N ≤ A.heap.size) : Kpn N A B := Kpn.only h hN (by simp)
theorem Kpn.putObj (W : World) (l : Nat) (o o' : Obj) (hl : N ≤ l) : Kpn N W (W.putObj l o') := by
  refine ⟨(grownBy_putObj' W l o').size, fun k hk => ?_⟩
  exact World.putObj_heap_other (by omega)
theorem Kpn.blk {g : Nat} {t : TypeId} {cs : Array Value} (h : Kpn N A B) (hg : g < N) (hb : Blk A g t cs) : Blk B g t cs := (h.2 g hg).trans hb
theorem Kpn.cell {p : Addr} {v : Value} (h : Kpn N A B) (hp : p.block < N) (hc : A.cell? p = some v) : B.cell? p = some v := (World.cell?_of_block (w := A) (h.2 p.block hp)).trans hc
theorem only_grown (h : Only [] A B) (row : Option Nat) : A.grownBy B row := ⟨h.os, h.tape, h.output, h.size, fun k hk _ => h.block k hk (by simp)⟩
theorem ab_only0 {β : Type} {n : Nat} {J : β → World → Prop} (hJ : AbidesFrom n J) {s : β} (h : J s A) (o : Only [] A B) : J s B := hJ s A B none h (only_grown o none) (fun r e => by cases e)
theorem only_of_below (h : Below A.heap.size A B) : Only [] A B := ⟨h.os, h.tape, h.output, h.size, fun k hk _ => h.block k hk⟩
theorem wpIn_scope_wide {n : Nat} {P : Program} {c : Code} {Q : Exit → Act → World → Prop} {a : Act} {w : World} (h : c.wpIn Fence.wide n P (Exit.noGoto Q) a w) : (Code.scope c).wpIn Fence.wide n P Q a w :=
  wpIn_wide.2 (wp_scope_straight (wpIn_wide.1 h))
theorem blk_turn {W W' : World} {row : Option Nat} {g : Nat} {t : TypeId} {cs : Array Value} (h : Blk W g t cs) (hg : W.grownBy W' row) (hr : ∀ r, row = some r → ∃ o : Obj, W.heap[r]? = some o ∧ o.isCells = false) : Blk W' g t cs := by
  refine h.grown hg (fun e => ?_)
  obtain ⟨o, ho, hc⟩ := hr g e.symm
  unfold Blk at h
  rw [h] at ho
  cases ho
  simp [Obj.isCells] at hc
theorem own_turn {W W' : World} {row : Option Nat} {base size n c : Nat} {e : TypeId} {A : Option Addr} {xs : List Value} (h : W.ownsRow base e size (.slice A n c) n xs) (hg : W.grownBy W' row) (hr : ∀ r, row = some r → ∃ o : Obj, W.heap[r]? = some o ∧ o.isCells = false) : W'.ownsRow base e size (.slice A n c) n xs := by
  refine ⟨h.1, ?_⟩
  rcases h.2 with h2 | ⟨g, cap, cur, hv, hb, hh, r⟩
  · exact .inl h2
  · exact .inr ⟨g, cap, cur, hv, hb, blk_turn (t := e) hh hg hr, r⟩
theorem kf_set (B : Nat) (W : World) (p : Addr) (u : Value) : KeepsFrom B W (W.setCell p u) := (KeepsOthers.setCell W p u).from B
end
/-- Events in memory. -/
def EvAt (w : World) (A : Option Addr) (n : Nat) (f : Nat → Ev) : Prop := ∀ k, k < n → ∃ a : Addr, A = some a ∧ w.cell? (a.add (k * 2)) = some (.int .i64 (f k).kind) ∧ w.cell? ⟨(a.add (k * 2)).block, (a.add (k * 2)).off + 1, none⟩ = some (.int .i64 (f k).num)
theorem EvAt.only0 {w W : World} {A : Option Addr} {n : Nat} {f : Nat → Ev} (h : EvAt w A n f) (o : Only [] w W) : EvAt W A n f := fun k hk => by
  obtain ⟨a, e, h1, h2⟩ := h k hk
  exact ⟨a, e, o.keep0 h1, o.keep0 h2⟩
def EvLt (A : Option Addr) (N : Nat) : Prop := ∀ a, A = some a → a.block < N
theorem EvAt.kpn {w W : World} {A : Option Addr} {n N : Nat} {f : Nat → Ev} (h : EvAt w A n f) (hN : EvLt A N) (k : Kpn N w W) : EvAt W A n f := fun j hj => by
  obtain ⟨a, e, h1, h2⟩ := h j hj
  have hl := hN a e
  exact ⟨a, e, k.cell (by rw [block_of_add]; exact hl) h1, k.cell (p := ⟨(a.add (j * 2)).block, (a.add (j * 2)).off + 1, none⟩) (by simp only; rw [block_of_add]; exact hl) h2⟩
def evL (n : Nat) (f : Nat → Ev) : List Ev := (List.range n).map f
theorem evL_len (n : Nat) (f : Nat → Ev) : (evL n f).length = n := by simp [evL]
theorem evL_get {n : Nat} {f : Nat → Ev} {k : Nat} (hk : k < n) : (evL n f)[k]? = some (f k) := by
  unfold evL
  rw [List.getElem?_map, List.getElem?_range hk]; rfl
/-- The stretch that begins at a place. -/
theorem strF_step {n : Nat} {f : Nat → Ev} {i m : Nat} (hi : i < n) (he : mayE (f i) = true) (h1 : 1 ≤ m) (hm : i + m ≤ n) (hall : ∀ j, j < m → f (i + j) = f i) (h3 : (f i).kind = 3 → m = 1) (hend : (f i).kind ≠ 3 → i + m = n ∨ f (i + m) ≠ f i) :
    strF ((evL n f).drop i) = ⟨f i, m⟩ :: strF ((evL n f).drop (i + m)) := by
  have hs : (evL n f).drop i = List.replicate m (f i) ++ (evL n f).drop (i + m) := by
    apply List.ext_getElem?
    intro j
    rw [List.getElem?_drop]
    by_cases hj : j < m
    · rw [evL_get (by omega), List.getElem?_append_left (by simpa using hj), List.getElem?_replicate, if_pos hj, hall j hj]
    · rw [List.getElem?_append_right (by simp; omega), List.getElem?_drop, List.length_replicate, show i + m + (j - m) = i + j by omega]
  rw [hs]
  by_cases hk : (f i).kind = 3
  · have := h3 hk
    subst this
    exact strF_one he hk _
  · obtain ⟨q, rfl⟩ : ∃ q, m = q + 1 := ⟨m - 1, by omega⟩
    have hr : (evL n f).drop (i + (q + 1)) = [] ∨ ∃ x xs, (evL n f).drop (i + (q + 1)) = x :: xs ∧ x ≠ f i := by
      by_cases hn : i + (q + 1) = n
      · exact .inl (List.drop_eq_nil_of_le (by rw [evL_len]; omega))
      · refine .inr ⟨f (i + (q + 1)), (evL n f).drop (i + (q + 1) + 1), ?_, ?_⟩
        · rw [List.drop_eq_getElem_cons (by rw [evL_len]; omega)]
          congr 1
          unfold evL
          simp
        · rcases hend hk with h | h
          · exact absurd h hn
          · exact h
    rw [strF_run he hk hr q]
    norm_cast
theorem strF_stop {n : Nat} {f : Nat → Ev} {i : Nat} (h : n ≤ i ∨ mayE (f i) = false) : strF ((evL n f).drop i) = [] := by
  by_cases hi : i < n
  · have he : mayE (f i) = false := h.elim (fun h => by omega) id
    rw [List.drop_eq_getElem_cons (by rw [evL_len]; exact hi)]
    have : (evL n f)[i]'(by rw [evL_len]; exact hi) = f i := by unfold evL; simp
    rw [this]
    exact strF_bad he
  · rw [List.drop_eq_nil_of_le (by rw [evL_len]; omega)]; rfl
theorem eqEv (a b c d : Int) (W : World) : (binOp .eql 24 (.agg #[.int .i64 a, .int .i64 b]) (.agg #[.int .i64 c, .int .i64 d])).run Tryz.prog W = .ok (.bool (a == c && b == d)) W := by
  by_cases h1 : a = c <;> by_cases h2 : b = d <;> simp [go_sem, h1, h2]
end Go.Proofs.YteblhklclcjonaaGreatDoor
