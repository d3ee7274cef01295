/- Ready lists: the walks of there, thread, link, join. Condition: the block of the list lies. -/
import Derived.Test.YtnndengdlokmbaaBase
import Derived.Test.YtnndengdlokmbaaProg
import Derived.Test.YtnndengdlokmbaaRd2
namespace Go.Proofs.Ytnndengdlokmbaa
open Go.RowKit
set_option linter.unusedVariables false
set_option linter.all false
set_option maxRecDepth 20000

def ptr (g : Nat) : Value := .pointer (some ⟨g, 0, none⟩)
theorem there_nil (w : World) : Calls Try.prog 62 #[.pointer none] w fun e w' => e = .returned (.bool false) ∧ w' = w := by
  go_enter Try.func62, Try.ntmps62
  go_wp2_with fail
  go_ret
  exact ⟨rfl, rfl⟩
theorem there_any (g : Nat) (m : Bool) (w : World) (h0 : w.cell? ⟨g, 0, none⟩ = some (.bool m)) : Calls Try.prog 62 #[ptr g] w fun e w' => e = .returned (.bool m) ∧ w' = w := by
  unfold ptr
  go_enter Try.func62, Try.ntmps62
  go_wp2_with fail
  go_ret
  exact ⟨rfl, rfl⟩
theorem thread_any (t : Int) (w : World) : Calls Try.prog 68 #[.int .i64 t] w fun e w' => e = .returned (.bool (decide (0 ≤ t) && decide (t < 16))) ∧ w' = w := by
  go_enter Try.func68, Try.ntmps68
  go_wp2_with fail
  all_goals go_ret
  all_goals (refine ⟨?_, rfl⟩; first | (simp [*]; done) | (simp [*]; omega))
theorem link_any (g k : Nat) (st to : Int) (v : Value) (hst : -9223372036854775808 ≤ st ∧ st < 9223372036854775807) (w : World) (h0 : w.cell? ⟨g, 114, none⟩ = some (.int .i64 st)) (hf : ∀ j, w.frozen? ⟨g, j, none⟩ = false) (hk : w.cell? ⟨g, k, none⟩ = some v) (hne : k ≠ 114) :
    Calls Try.prog 72 #[ptr g, .pointer (some ⟨g, k, none⟩), .int .i64 to] w fun e w' => e = .returned (.tuple #[]) ∧ w' = (w.setCell ⟨g, 114, none⟩ (.int .i64 (st + 1))).setCell ⟨g, k, none⟩ (.int .i64 to) := by
  unfold ptr
  have f1 := hf 114
  have f2 := hf k
  have hk2 : (w.setCell ⟨g, 114, none⟩ (.int .i64 (st + 1))).cell? ⟨g, k, none⟩ = some v := (World.cell?_setCell_other w ⟨g, 114, none⟩ ⟨g, k, none⟩ _ (by simpa using fun h => hne h.symm)).trans hk
  go_enter Try.func72, Try.ntmps72
  go_wp2_with fail
  go_end0
  exact ⟨rfl, rfl⟩

/-- The cells of a list. -/
structure Cs (cs : Array Value) (s : RS) (prio : Nat → Int) (bits : Nat) (st : Int) : Prop where
  size : cs.size = 115
  made : cs[0]? = some (.bool true)
  some_ : cs[1]? = some (.int .u32 bits)
  head : ∀ i, i < 32 → cs[2 + i]? = some (.int .i64 (s.head i))
  tail : ∀ i, i < 32 → cs[34 + i]? = some (.int .i64 (s.tail i))
  next : ∀ i, i < 16 → cs[66 + i]? = some (.int .i64 (s.next i))
  prev : ∀ i, i < 16 → cs[82 + i]? = some (.int .i64 (s.prev i))
  pr : ∀ i, i < 16 → cs[98 + i]? = some (.int .i64 (prio i))
  steps : cs[114]? = some (.int .i64 st)
theorem set_ne {cs : Array Value} {i j : Nat} {v : Value} (h : i ≠ j) : (cs.setIfInBounds i v)[j]? = cs[j]? := by
  rw [Array.getElem?_setIfInBounds]; rw [if_neg h]
theorem set_eq {cs : Array Value} {i : Nat} {v : Value} (h : i < cs.size) : (cs.setIfInBounds i v)[i]? = some v := by
  rw [Array.getElem?_setIfInBounds, if_pos rfl, if_pos h]
section
variable {cs : Array Value} {s : RS} {prio : Nat → Int} {bits : Nat} {st : Int}
theorem Cs.setSteps (h : Cs cs s prio bits st) (v : Int) : Cs (cs.setIfInBounds 114 (.int .i64 v)) s prio bits v := by
  have hz := h.size
  exact ⟨by simp [hz], (set_ne (by omega)).trans h.made, (set_ne (by omega)).trans h.some_, fun i hi => (set_ne (by omega)).trans (h.head i hi), fun i hi => (set_ne (by omega)).trans (h.tail i hi), fun i hi => (set_ne (by omega)).trans (h.next i hi), fun i hi => (set_ne (by omega)).trans (h.prev i hi), fun i hi => (set_ne (by omega)).trans (h.pr i hi), set_eq (by omega)⟩
theorem Cs.setBits (h : Cs cs s prio bits st) (v : Nat) : Cs (cs.setIfInBounds 1 (.int .u32 v)) s prio v st := by
  have hz := h.size
  exact ⟨by simp [hz], (set_ne (by omega)).trans h.made, set_eq (by omega), fun i hi => (set_ne (by omega)).trans (h.head i hi), fun i hi => (set_ne (by omega)).trans (h.tail i hi), fun i hi => (set_ne (by omega)).trans (h.next i hi), fun i hi => (set_ne (by omega)).trans (h.prev i hi), fun i hi => (set_ne (by omega)).trans (h.pr i hi), (set_ne (by omega)).trans h.steps⟩
theorem upd_cell {f : Nat → Int} {o n k : Nat} {v : Int} (hk : k < n) (hz : o + n ≤ cs.size) (h : ∀ i, i < n → cs[o + i]? = some (.int .i64 (f i))) : ∀ i, i < n → (cs.setIfInBounds (o + k) (.int .i64 v))[o + i]? = some (.int .i64 (upd f k v i)) := by
  intro i hi
  by_cases e : i = k
  · subst e; rw [upd_same]; exact set_eq (by omega)
  · rw [upd_other _ _ e, set_ne (by omega)]; exact h i hi
theorem Cs.setHead (h : Cs cs s prio bits st) (k : Nat) (hk : k < 32) (v : Int) : Cs (cs.setIfInBounds (2 + k) (.int .i64 v)) { s with head := upd s.head k v } prio bits st := by
  have hz := h.size
  exact ⟨by simp [hz], (set_ne (by omega)).trans h.made, (set_ne (by omega)).trans h.some_, upd_cell hk (by omega) h.head, fun i hi => (set_ne (by omega)).trans (h.tail i hi), fun i hi => (set_ne (by omega)).trans (h.next i hi), fun i hi => (set_ne (by omega)).trans (h.prev i hi), fun i hi => (set_ne (by omega)).trans (h.pr i hi), (set_ne (by omega)).trans h.steps⟩
theorem Cs.setTail (h : Cs cs s prio bits st) (k : Nat) (hk : k < 32) (v : Int) : Cs (cs.setIfInBounds (34 + k) (.int .i64 v)) { s with tail := upd s.tail k v } prio bits st := by
  have hz := h.size
  exact ⟨by simp [hz], (set_ne (by omega)).trans h.made, (set_ne (by omega)).trans h.some_, fun i hi => (set_ne (by omega)).trans (h.head i hi), upd_cell hk (by omega) h.tail, fun i hi => (set_ne (by omega)).trans (h.next i hi), fun i hi => (set_ne (by omega)).trans (h.prev i hi), fun i hi => (set_ne (by omega)).trans (h.pr i hi), (set_ne (by omega)).trans h.steps⟩
theorem Cs.setNext (h : Cs cs s prio bits st) (k : Nat) (hk : k < 16) (v : Int) : Cs (cs.setIfInBounds (66 + k) (.int .i64 v)) { s with next := upd s.next k v } prio bits st := by
  have hz := h.size
  exact ⟨by simp [hz], (set_ne (by omega)).trans h.made, (set_ne (by omega)).trans h.some_, fun i hi => (set_ne (by omega)).trans (h.head i hi), fun i hi => (set_ne (by omega)).trans (h.tail i hi), upd_cell hk (by omega) h.next, fun i hi => (set_ne (by omega)).trans (h.prev i hi), fun i hi => (set_ne (by omega)).trans (h.pr i hi), (set_ne (by omega)).trans h.steps⟩
theorem Cs.setPrev (h : Cs cs s prio bits st) (k : Nat) (hk : k < 16) (v : Int) : Cs (cs.setIfInBounds (82 + k) (.int .i64 v)) { s with prev := upd s.prev k v } prio bits st := by
  have hz := h.size
  exact ⟨by simp [hz], (set_ne (by omega)).trans h.made, (set_ne (by omega)).trans h.some_, fun i hi => (set_ne (by omega)).trans (h.head i hi), fun i hi => (set_ne (by omega)).trans (h.tail i hi), fun i hi => (set_ne (by omega)).trans (h.next i hi), upd_cell hk (by omega) h.prev, fun i hi => (set_ne (by omega)).trans (h.pr i hi), (set_ne (by omega)).trans h.steps⟩
theorem Cs.setPrio (h : Cs cs s prio bits st) (k : Nat) (hk : k < 16) (v : Int) : Cs (cs.setIfInBounds (98 + k) (.int .i64 v)) s (upd prio k v) bits st := by
  have hz := h.size
  exact ⟨by simp [hz], (set_ne (by omega)).trans h.made, (set_ne (by omega)).trans h.some_, fun i hi => (set_ne (by omega)).trans (h.head i hi), fun i hi => (set_ne (by omega)).trans (h.tail i hi), fun i hi => (set_ne (by omega)).trans (h.next i hi), fun i hi => (set_ne (by omega)).trans (h.prev i hi), upd_cell hk (by omega) h.pr, (set_ne (by omega)).trans h.steps⟩
end
/-- A list in memory. -/
def RB (W : World) (g : Nat) (s : RS) (prio : Nat → Int) (bits : Nat) (st : Int) : Prop := ∃ cs, Blk W g 78 cs ∧ Cs cs s prio bits st
theorem link_blk (g k : Nat) (st to : Int) (v : Value) {cs : Array Value} (hst : -9223372036854775808 ≤ st ∧ st < 9223372036854775807) (w : World) (hb : Blk w g 78 cs) (h0 : cs[114]? = some (.int .i64 st)) (hk : cs[k]? = some v) (hne : k ≠ 114) :
    Calls Try.prog 72 #[ptr g, .pointer (some ⟨g, k, none⟩), .int .i64 to] w fun e w' => e = .returned (.tuple #[]) ∧ Blk w' g 78 ((cs.setIfInBounds 114 (.int .i64 (st + 1))).setIfInBounds k (.int .i64 to)) ∧ Only [g] w w' := by
  refine (link_any g k st to v hst w ((hb.cell 114).trans h0) hb.frozen ((hb.cell k).trans hk) hne).mono ?_
  rintro e w' ⟨rfl, rfl⟩
  exact ⟨rfl, (hb.set_ 114 _).set_ k _, ((Only.refl [g] w).setCell (.inl (by simp)) _).setCell (.inl (by simp)) _⟩
end Go.Proofs.Ytnndengdlokmbaa
