/- Ready lists, the document's answer: the walk of Put. Condition: the rows lie. -/
import Derived.Test.YtnndengdlokmbaaRd18
import Derived.BigRegion
namespace Go.Proofs.Ytnndengdlokmbaa
open Go.RowKit Go.Shelf
set_option linter.unusedVariables false
set_option linter.all false
set_option maxRecDepth 20000
attribute [local go_sem ↓] app_hide

theorem NV_append (l r : List Nat) : NV (l ++ r) = NV l ++ NV r := by simp [NV]
theorem NV_one (l : List Nat) : ∀ u ∈ NV l, u.oneCell' = true := by
  intro u hu
  obtain ⟨t, _, rfl⟩ := List.mem_map.1 hu
  rfl
/-- append(s, r...) at a slice of one's own, r any threads. -/
theorem app_src (w : World) (B : Nat) (A0 : Option Addr) (c0 : Nat) (l : List Nat) (A : Option Addr) (c : Nat) (r : List Nat) (n0 n : Nat) (hn0 : l.length = n0) (hn1 : r.length = n) (hrow : w.ownsRow B 3 1 (.slice A0 n0 c0) n0 (NV l)) (hs : Nsrc w A r)
    (hn : l.length + r.length ≤ 100000) (hB : B ≤ w.heap.size) :
    ∃ (A1 : Option Addr) (c1 : Nat) (w2 : World), (AppH #[32, 32] 32 #[.slice A0 n0 c0, .slice A n c]).run Try.prog w = .ok (.slice A1 (n0 + n) c1) w2 ∧ w2.ownsRow B 3 1 (.slice A1 (n0 + n) c1) (n0 + n) (NV (l ++ r)) ∧ Only (blkOf A0) w w2 := by
  obtain ⟨i0, hi, hz0, hz1, hz2⟩ := info_parts int3_info
  have hcap := own_cap hrow
  subst hn0
  rcases A with _ | a
  · have h0 : r = [] := by
      rcases Nat.eq_zero_or_pos r.length with h0 | h0
      · exact List.eq_nil_of_length_eq_zero h0
      · obtain ⟨ad, he, _⟩ := hs h0
        cases he
    subst h0
    obtain rfl : n = 0 := by simpa using hn1.symm
    refine ⟨A0, c0, w, ?_, by simpa using hrow, Only.refl _ _⟩
    · unfold AppH Builtin.append_
      have h1 := hcap.1
      have h2 := hcap.2
      rcases A0 with _ | a0
      · rcases hrow.2 with ⟨hv, _⟩ | ⟨g, cap, cur, hv, _⟩
        · simp only [Value.slice.injEq, true_and] at hv
          obtain ⟨hv1, rfl⟩ := hv
          simp [Builtin.lenOf, Builtin.firstCells, hv1]
        · simp at hv
      · simp [Builtin.lenOf, Builtin.firstCells, h1, storeCells]
  · have hc : ∀ j u, (NV r)[j]? = some u → w.cell? (a.add j) = some u := by
      rcases Nat.eq_zero_or_pos r.length with h0 | h0
      · intro j u hj
        rw [List.eq_nil_of_length_eq_zero h0] at hj
        simp [NV] at hj
      · obtain ⟨g, he, hc⟩ := hs h0
        cases he
        intro j u hj
        simp only [NV, List.getElem?_map, Option.map_eq_some_iff] at hj
        obtain ⟨t, ht, rfl⟩ := hj
        rw [add_mk, Nat.zero_add]
        exact hc j t ht
    obtain ⟨v', w', hrun, h2, h3, h4, h5⟩ := run_append_own_at (P := Try.prog) w B 32 32 3 i0 (.int .i64 0) 1 8 Try.underlying32 hi hz0 hz1 hz2 rfl (by omega) (.slice A0 l.length c0) l.length (NV l) hrow a n c (NV r) (by rw [NV_len]; omega) hc (NV_one r) (by unfold maxLen; omega) (by omega) hB
    rw [← NV_append] at h2
    obtain ⟨A1, c1, rfl⟩ : ∃ A1 c1, v' = .slice A1 (l.length + n) c1 := by
      rcases h2.2 with ⟨hv, hn⟩ | ⟨g, cap, cur, hv, _⟩
      · rw [hn]
        exact ⟨none, 0, hv⟩
      · exact ⟨_, _, hv⟩
    refine ⟨A1, c1, w', hrun, h2, (Only.refl _ w).grown h3 (fun k hk => .inl ?_)⟩
    rcases A0 with _ | a0
    · simp [Value.ownBlock] at hk
    · simp only [Value.ownBlock, Option.some.injEq] at hk
      simp [blkOf, hk]
theorem own_new (W : World) (t : Nat) : (W.alloc (.cells #[.int .i64 (t : Int)] 3)).ownsRow W.heap.size 3 1 (.slice (some ⟨W.heap.size, 0, none⟩) 1 1) 1 (NV [t]) := by
  have := own_of_block (cur := [.int .i64 (t : Int)]) (n := 1) (cap := 1) (base := W.heap.size) (Blk.new W 3 #[.int .i64 (t : Int)]) rfl (by omega) (by unfold maxLen; omega) (Nat.le_refl _)
  simpa [NV] using this
/-- What the call leaves. -/
def PutD (w : World) (d : Nat) (q : Nat → List Nat) (c : Int) (e : Ending) (w' : World) : Prop := e = .returned (.int .i64 c) ∧ DQ w' d q ∧ Only [d] w w'
/-- One row anew. -/
theorem DQ.set_ {W W' : World} {d : Nat} {q : Nat → List Nat} (h : DQ W d q) (o : Only [] W W') {p : Nat} (hp : p < 32) {A : Option Addr} {c base : Nat} {l : List Nat} {n : Nat} (hn : l.length = n) (hr : W'.ownsRow base 3 1 (.slice A n c) n (NV l)) (hb : d < base) :
    DQ (W'.setCell ⟨d, p, none⟩ (.slice A n c)) d (setq q p l) ∧ Only [d] W (W'.setCell ⟨d, p, none⟩ (.slice A n c)) := by
  subst hn
  have h2 := h.only o (NoRow.nil _) (by simp)
  obtain ⟨cs, A0, c0, hB, hz, hR⟩ := h2
  have o2 : Only [d] W' (W'.setCell ⟨d, p, none⟩ (.slice A l.length c)) := (Only.refl [d] W').setCell (p := ⟨d, p, none⟩) (.inl (by simp)) _
  refine ⟨⟨cs.setIfInBounds p (.slice A l.length c), fun i => if i = p then A else A0 i, fun i => if i = p then c else c0 i, hB.set_ p _, by simpa using hz, fun i hi => ?_⟩, (wide_only o).trans' o2⟩
  by_cases e : i = p
  · subst e
    dsimp only
    rw [setq_same, if_pos rfl, if_pos rfl]
    refine ⟨set_eq (by omega), Row.only (Row.own hr) o2 (NoRow.one hB (by decide))⟩
  · dsimp only
    rw [setq_other _ _ e, if_neg e, if_neg e, set_ne (Ne.symm e)]
    exact ⟨(hR i hi).1, (hR i hi).2.only o2 (NoRow.one hB (by decide))⟩
end Go.Proofs.Ytnndengdlokmbaa
