/- Ready lists, the document's answer: rows of threads in memory; the walk of Prio. Condition: the rows lie. -/
import Derived.Test.YtnndengdlokmbaaRd17
namespace Go.Proofs.Ytnndengdlokmbaa
open Go.RowKit Go.Shelf
set_option linter.unusedVariables false
set_option linter.all false
set_option maxRecDepth 20000

/-- A row of threads. -/
def Row (W : World) (A : Option Addr) (l : List Nat) : Prop := 0 < l.length → ∃ (g : Nat) (cs : Array Value), A = some ⟨g, 0, none⟩ ∧ Blk W g 3 cs ∧ ∀ (j t : Nat), l[j]? = some t → cs[j]? = some (.int .i64 (t : Int))
/-- The document's list. -/
def DQ (W : World) (d : Nat) (q : Nat → List Nat) : Prop := ∃ (cs : Array Value) (A : Nat → Option Addr) (c : Nat → Nat), Blk W d 29 cs ∧ cs.size = 32 ∧ ∀ i, i < 32 → cs[i]? = some (.slice (A i) (q i).length (c i)) ∧ Row W (A i) (q i)
/-- None of these blocks is a row. -/
def NoRow (w : World) (S : List Nat) : Prop := ∀ k ∈ S, k < w.heap.size → ∃ (t : TypeId) (cs : Array Value), Blk w k t cs ∧ t ≠ 3
theorem NoRow.nil (w : World) : NoRow w [] := fun k hk => by cases hk
theorem NoRow.one {w : World} {g : Nat} {t : TypeId} {cs : Array Value} (h : Blk w g t cs) (ht : t ≠ 3) : NoRow w [g] := fun k hk _ => by simp at hk; subst hk; exact ⟨t, cs, h, ht⟩
theorem Row.only {w w' : World} {A : Option Addr} {l : List Nat} {S : List Nat} (h : Row w A l) (o : Only S w w') (hS : NoRow w S) : Row w' A l := fun hl => by
  obtain ⟨g, cs, e, hb, hc⟩ := h hl
  refine ⟨g, cs, e, hb.only o (fun hm => ?_), hc⟩
  obtain ⟨t, cs', h2, h3⟩ := hS g hm hb.lt
  exact Blk.ne_ hb h2 (Ne.symm h3) rfl
theorem Row.nsrc {w : World} {A : Option Addr} {l : List Nat} (h : Row w A l) : Nsrc w A l := fun hl => by
  obtain ⟨g, cs, e, hb, hc⟩ := h hl
  exact ⟨g, e, fun j t hj => (hb.cell j).trans (hc j t hj)⟩
theorem Row.own {w : World} {base c : Nat} {A : Option Addr} {l : List Nat} (h : w.ownsRow base 3 1 (.slice A l.length c) l.length (NV l)) : Row w A l := fun hl => by
  rcases h.2 with ⟨hv, hn⟩ | ⟨g, cap, cur, hv, _, hg, r⟩
  · omega
  · simp only [Value.slice.injEq] at hv
    obtain ⟨rfl, _, _⟩ := hv
    refine ⟨g, cur, rfl, hg, fun j t hj => ?_⟩
    have h1 := h.cellAt j (by have := (List.getElem?_eq_some_iff.1 hj).1; omega)
    rw [Blk.cell hg j] at h1
    rw [h1]
    exact NV_get l j t hj
theorem DQ.only {w w' : World} {d : Nat} {q : Nat → List Nat} {S : List Nat} (h : DQ w d q) (o : Only S w w') (hS : NoRow w S) (hd : d ∉ S) : DQ w' d q := by
  obtain ⟨cs, A, c, hb, hz, hr⟩ := h
  exact ⟨cs, A, c, hb.only o hd, hz, fun i hi => ⟨(hr i hi).1, (hr i hi).2.only o hS⟩⟩
/-- In whose sequence a thread stands, whatever number it has. -/
def prioI (q : Nat → List Nat) (t : Int) : Nat := if 0 ≤ t then prioQ q t.toNat else 0
theorem prioI_found {q : Nat → List Nat} {p : Nat} {t : Int} (h0 : q 0 = []) (hp : p < 32) {v : Nat} (hv : v ∈ q p) (hvt : (v : Int) = t) (hn : ∀ j, 1 ≤ j → j < p → ∀ v ∈ q j, (v : Int) ≠ t) : prioI q t = p := by
  subst hvt
  unfold prioI prioQ
  rw [if_pos (by omega), Int.toNat_natCast]
  have : (List.range 32).find? (fun p => (q p).contains v) = some p := by
    rw [List.find?_range_eq_some]
    refine ⟨by simpa using hv, by simpa using hp, fun j hj => ?_⟩
    rcases Nat.eq_zero_or_pos j with e | e
    · subst e; simp [h0]
    · simp only [Bool.not_eq_true', List.contains_eq_mem, decide_eq_false_iff_not]
      exact fun hm => hn j e hj v hm rfl
  rw [this]
  rfl
theorem prioI_none {q : Nat → List Nat} {t : Int} (h0 : q 0 = []) (hn : ∀ j, 1 ≤ j → j < 32 → ∀ v ∈ q j, (v : Int) ≠ t) : prioI q t = 0 := by
  unfold prioI prioQ
  split
  · have : (List.range 32).find? (fun p => (q p).contains t.toNat) = none := by
      rw [List.find?_eq_none]
      intro j hj
      have hj' := List.mem_range.1 hj
      rcases Nat.eq_zero_or_pos j with e | e
      · subst e; simp [h0]
      · simp only [List.contains_eq_mem, decide_eq_true_eq]
        exact fun hm => hn j e hj' _ hm (by omega)
    rw [this]
    rfl
  · rfl
end Go.Proofs.Ytnndengdlokmbaa
