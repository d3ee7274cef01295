/- Code: the walk of Read. Condition: Env. -/
import Derived.Test.YteblhklclcjonaaGreatDoorCd9
import Derived.Scope
import Derived.OwnWalk
namespace Go.Proofs.YteblhklclcjonaaGreatDoor
open Go.RowKit
set_option linter.unusedVariables false
set_option linter.all false
set_option maxRecDepth 20000
attribute [local go_sem ↓] app_hide

/-- What is left to read, and what has been read. -/
def readL (cnt : Int) : Nat → List Ins → List UInt8 → List Ins × List UInt8
  | 0, p, r => (p, r)
  | f + 1, p, r => if r = [] then (p, []) else match parP (cutAt 10 r).1 with
    | none => (p, r)
    | some i => if (cutAt 10 r).2.2 = true ∧ mayI i cnt = true ∧ p.length < 256 then readL cnt f (p ++ [i]) (cutAt 10 r).2.1 else (p, r)
theorem readL_nil (cnt : Int) (f : Nat) (p : List Ins) : readL cnt f p [] = (p, []) := by
  cases f <;> simp [readL]
theorem readL_none {cnt : Int} {f : Nat} {p : List Ins} {r : List UInt8} (h : parP (cutAt 10 r).1 = none) : readL cnt f p r = (p, r) := by
  cases f with
  | zero => rfl
  | succ f =>
    unfold readL
    split
    · rename_i h0; rw [h0]
    · rw [h]
theorem readL_stop {cnt : Int} {f : Nat} {p : List Ins} {r : List UInt8} {i : Ins} (h : parP (cutAt 10 r).1 = some i) (hc : ¬ ((cutAt 10 r).2.2 = true ∧ mayI i cnt = true ∧ p.length < 256)) : readL cnt f p r = (p, r) := by
  cases f with
  | zero => rfl
  | succ f =>
    unfold readL
    split
    · rename_i h0; rw [h0]
    · rw [h]; simp only; rw [if_neg hc]
theorem readL_go {cnt : Int} {f : Nat} {p : List Ins} {r : List UInt8} {i : Ins} (hr : r ≠ []) (h : parP (cutAt 10 r).1 = some i) (hc : (cutAt 10 r).2.2 = true ∧ mayI i cnt = true ∧ p.length < 256) : readL cnt (f + 1) p r = readL cnt f (p ++ [i]) (cutAt 10 r).2.1 := by
  conv => lhs; unfold readL
  rw [if_neg hr, h]
  simp only
  rw [if_pos hc]
def cntR (t : List UInt8) : Int := Lib.countByte t 10 + if t ≠ [] ∧ Lib.hasSuffix t [10] = false then 1 else 0
/-- What Read answers. -/
def readR (t : List UInt8) : List Ins × Int × Int := if 16384 < t.length then ([], 0, 3) else
  if (readL (cntR t) t.length [] t).2 ≠ [] then ([], ((readL (cntR t) t.length [] t).1.length : Nat), 4) else ((readL (cntR t) t.length [] t).1, 0, 0)
/-! ## Rows of instructions -/
def GI (p : List Ins) : List Value := p.flatMap fun i => (insV i).toList
def Is (w : World) (B : Nat) (A : Option Addr) (c : Nat) (p : List Ins) : Prop := w.ownsRow B 99 5 (.slice A p.length c) p.length (GI p)
theorem Is.only0 {w w' : World} {B : Nat} {A : Option Addr} {c : Nat} {p : List Ins} (h : Is w B A c p) (o : Only [] w w') : Is w' B A c p := own_only' h o (by simp)
theorem GI_append (a b : List Ins) : GI (a ++ b) = GI a ++ GI b := by simp [GI]
theorem info24b : (Tryz.prog.info? 99).map (fun i => (i.zero, i.size, i.bytes)) = some (some (.agg z5), 5, 40) := by kernel_rfl
theorem app_ins (W : World) (B : Nat) (A : Option Addr) (c : Nat) (l : List Ins) (i : Ins) (hrow : Is W B A c l) (hl : l.length ≤ 100000) (hB : B ≤ W.heap.size) :
    ∃ g' c' w2, (AppH #[67, 67] 67 #[.slice A l.length c, .slice (some ⟨W.heap.size, 0, none⟩) 1 1]).run Tryz.prog (W.alloc (.cells (insV i) 99)) = .ok (.slice (some ⟨g', 0, none⟩) (l.length + 1) c') w2 ∧
      Is w2 B (some ⟨g', 0, none⟩) c' (l ++ [i]) ∧ Only (blkOf A) W w2 := by
  obtain ⟨i0, hi, hz0, hz1, hz2⟩ := info_parts info24b
  obtain ⟨g', cap', w2, hrun, hown, ho, hgg⟩ := append_at (P := Tryz.prog) (W.alloc (.cells (insV i) 99)) B 67 67 99 i0 (.agg z5) 5 40 Tryz.underlying67 hi hz0 hz1 hz2 rfl (by omega) A l.length c (GI l) (own_only' hrow ((Only.refl [] W).alloc _) (by simp))
    ⟨W.heap.size, 0, none⟩ 1 1 (insV i).toList rfl (fun j u hj => by
      have := (Blk.new W 99 (insV i)).cell j
      rw [add_mk, Nat.zero_add, this]
      rw [← Array.getElem?_toList]
      exact hj) (by intro u hu; simp [insV] at hu; rcases hu with rfl | rfl | rfl | rfl | rfl <;> rfl) (.inl (by omega)) (by unfold maxLen; omega) (by omega) (by simp; omega)
  rw [app_hide] at hrun
  have e : GI l ++ (insV i).toList = GI (l ++ [i]) := by rw [GI_append]; simp [GI]
  rw [e] at hown
  exact ⟨g', cap', w2, hrun, by unfold Is; simpa using hown, ((Only.refl (blkOf A) W).alloc _).trans' ho⟩
theorem bs_empty (l : List UInt8) : ((bs l).toList == (ByteArray.mk #[]).toList) = l.isEmpty := by
  have := bs_eq l []
  rw [show bs [] = ByteArray.mk #[] from rfl] at this
  rw [this]
  cases l <;> rfl
end Go.Proofs.YteblhklclcjonaaGreatDoor
