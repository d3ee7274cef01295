/- Code: a program is copied by append; bytes as a text. Condition: the program's cells. -/
import Derived.Test.YtmaljajdmgkakaaGreatDoorCt7
import Derived.Deep.Slices
namespace Go.Proofs.YtmaljajdmgkakaaGreatDoor
open Go.RowKit
set_option linter.unusedVariables false
set_option linter.all false
set_option maxRecDepth 20000
attribute [local go_sem ↓] app_hide

theorem GI_len (p : List Ins) : (GI p).length = p.length * 5 := by
  induction p with
  | nil => rfl
  | cons i p ih =>
    have : GI (i :: p) = (insV i).toList ++ GI p := by simp [GI]
    rw [this, List.length_append, ih, List.length_cons]
    simp [insV]; omega
theorem GI_one (p : List Ins) : ∀ u ∈ GI p, u.oneCell' = true := by
  intro u hu
  unfold GI at hu
  obtain ⟨i, _, hi⟩ := List.mem_flatMap.1 hu
  simp [insV] at hi
  rcases hi with rfl | rfl | rfl | rfl | rfl <;> rfl
theorem src_cells {w : World} {a : Addr} {n : Nat} {f : Nat → Ins} (hA : InsAt w (some a) n f) : ∀ j u, (GI (pOf n f))[j]? = some u → w.cell? (a.add j) = some u := by
  intro j u hj
  have hlt : j < n * 5 := by
    have := (List.getElem?_eq_some_iff.1 hj).1
    rw [GI_len, pOf_len] at this
    exact this
  obtain ⟨k, q, hk, hq, rfl⟩ : ∃ k q, k < n ∧ q < 5 ∧ j = k * 5 + q := ⟨j / 5, j % 5, by omega, by omega, by omega⟩
  rw [GI_get (pOf n f) k q (by rw [pOf_len]; exact hk) hq, fOf_pOf hk] at hj
  obtain ⟨a', ha, h0, h1, h2, h3, h4⟩ := hA k hk
  obtain rfl : a = a' := Option.some.inj ha
  rw [← Go.Deep.add_add]
  rcases (by omega : q = 0 ∨ q = 1 ∨ q = 2 ∨ q = 3 ∨ q = 4) with h | h | h | h | h
  · subst h
    exact h0.trans hj
  · subst h
    exact h1.trans hj
  · subst h
    exact h2.trans hj
  · subst h
    exact h3.trans hj
  · subst h
    exact h4.trans hj
theorem app_prog (A : Option Addr) (n c : Nat) (f : Nat → Ins) (w : World) (hA : InsAt w A n f) (hn : n ≤ 600) :
    ∃ (A1 : Option Addr) (c1 : Nat) (w2 : World), (AppH #[22, 22] 22 #[.slice none 0 0, .slice A n c]).run Tryz.prog w = .ok (.slice A1 n c1) w2 ∧ Is w2 w.heap.size A1 c1 (pOf n f) ∧ Only [] w w2 := by
  obtain ⟨i0, hi, hz0, hz1, hz2⟩ := info_parts info24b
  rcases A with _ | a
  · obtain rfl : n = 0 := by
      rcases Nat.eq_zero_or_pos n with h | h
      · exact h
      · obtain ⟨ad, he, _⟩ := hA 0 h
        cases he
    refine ⟨none, 0, w, ?_, World.ownsRow_nil .., Only.refl _ _⟩
    unfold AppH Builtin.append_
    simp [Builtin.lenOf, Builtin.firstCells]
  · obtain ⟨v', w', hrun, h2, h3, h4, h5⟩ := run_append_own_at (P := Tryz.prog) w w.heap.size 22 22 25 i0 (.agg z5) 5 40 Tryz.underlying22 hi hz0 hz1 hz2 rfl (by omega) (.slice none 0 0) 0 [] (World.ownsRow_nil ..) a n c (GI (pOf n f)) (by rw [GI_len, pOf_len]) (src_cells hA) (GI_one _) (by unfold maxLen; omega) (by omega) (Nat.le_refl _)
    rw [Nat.zero_add, List.nil_append] at h2
    obtain ⟨A1, c1, rfl⟩ : ∃ A1 c1, v' = .slice A1 n c1 := by
      rcases h2.2 with ⟨hv, hn⟩ | ⟨g, cap, cur, hv, _⟩
      · rw [hn]
        exact ⟨none, 0, hv⟩
      · exact ⟨_, _, hv⟩
    refine ⟨A1, c1, w', hrun, ?_, (Only.refl _ w).grown h3 (fun k hk => by simp [Value.ownBlock] at hk)⟩
    unfold Is
    rw [pOf_len]
    exact h2
theorem run_str_any (A : Option Addr) (n c : Nat) (ds : List UInt8) (w : World) (hl : ds.length = n) (hs : Src w A ds) : (convert 33 9 (.slice A n c)).run Tryz.prog w = .ok (.string ⟨ds.toArray⟩) w :=
  run_str (P := Tryz.prog) (dst := 9) Tryz.underlying33 Tryz.underlying5 Tryz.underlying9 n c hl hs
theorem sameB_self (n : Nat) (f g : Nat → Ins) (h : ∀ k, k < n → f k = g k) : sameB n f n g = true := by
  unfold sameB
  rw [fb_none (fun k hk => by rw [h k hk, insEq_self]; rfl)]
  simp
end Go.Proofs.YtmaljajdmgkakaaGreatDoor
