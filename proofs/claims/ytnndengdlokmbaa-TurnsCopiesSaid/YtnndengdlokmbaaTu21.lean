/- Turns, the document's answer in memory. No condition. -/
import Derived.Test.YtnndengdlokmbaaTu20
import Derived.Test.YtnndengdlokmbaaRd19
namespace Go.Proofs.Ytnndengdlokmbaa
open Go.RowKit Go.Shelf
set_option linter.unusedVariables false
set_option linter.all false
set_option maxRecDepth 20000

/-- The cells of the document's turns. -/
structure DC (cs : Array Value) (Q : Int) (q : Nat → List Nat) (A : Nat → Option Addr) (c : Nat → Nat) (pr : Nat → Int) (rob : Nat → Bool) (lf : Nat → Int) : Prop where
  size : cs.size = 81
  qu : cs[0]? = some (.int .i64 Q)
  sq : ∀ p, p < 32 → cs[1 + p]? = some (.slice (A p) (q p).length (c p))
  pr : ∀ t, t < 16 → cs[33 + t]? = some (.int .i64 (pr t))
  rb : ∀ t, t < 16 → cs[49 + t]? = some (.bool (rob t))
  lf : ∀ t, t < 16 → cs[65 + t]? = some (.int .i64 (lf t))
def DR (W : World) (d : Nat) (Q : Int) (q : Nat → List Nat) (pr : Nat → Int) (rob : Nat → Bool) (lf : Nat → Int) : Prop :=
  ∃ cs A c, Blk W d 53 cs ∧ DC cs Q q A c pr rob lf ∧ ∀ p, p < 32 → Row W (A p) (q p)
section
variable {W W' : World} {d : Nat} {Q : Int} {q : Nat → List Nat} {pr : Nat → Int} {rob : Nat → Bool} {lf : Nat → Int}
theorem DR.only {S : List Nat} (h : DR W d Q q pr rob lf) (o : Only S W W') (hS : NoRow W S) (hd : d ∉ S) : DR W' d Q q pr rob lf := by
  obtain ⟨cs, A, c, hb, hC, hR⟩ := h
  exact ⟨cs, A, c, hb.only o hd, hC, fun p hp => (hR p hp).only o hS⟩
theorem DR.only0 (h : DR W d Q q pr rob lf) (o : Only [] W W') : DR W' d Q q pr rob lf := h.only o (NoRow.nil _) (by simp)
theorem DR.noRow (h : DR W d Q q pr rob lf) : NoRow W [d] := by
  obtain ⟨cs, A, c, hb, _⟩ := h
  exact NoRow.one hb (by decide)
theorem DR.lt (h : DR W d Q q pr rob lf) : d < W.heap.size := by
  obtain ⟨cs, A, c, hb, _⟩ := h
  exact hb.lt
theorem DR.fz (h : DR W d Q q pr rob lf) (i : Nat) : W.frozen? ⟨d, i, none⟩ = false := by
  obtain ⟨cs, A, c, hb, _⟩ := h
  exact hb.frozen i
theorem DR.cQ (h : DR W d Q q pr rob lf) : W.cell? ⟨d, 0, none⟩ = some (.int .i64 Q) := by
  obtain ⟨cs, A, c, hb, hC, _⟩ := h
  exact (hb.cell 0).trans hC.qu
theorem DR.cP (h : DR W d Q q pr rob lf) {t : Nat} (ht : t < 16) : W.cell? ⟨d, 33 + t, none⟩ = some (.int .i64 (pr t)) := by
  obtain ⟨cs, A, c, hb, hC, _⟩ := h
  exact (hb.cell _).trans (hC.pr t ht)
theorem DR.cR (h : DR W d Q q pr rob lf) {t : Nat} (ht : t < 16) : W.cell? ⟨d, 49 + t, none⟩ = some (.bool (rob t)) := by
  obtain ⟨cs, A, c, hb, hC, _⟩ := h
  exact (hb.cell _).trans (hC.rb t ht)
theorem DR.cL (h : DR W d Q q pr rob lf) {t : Nat} (ht : t < 16) : W.cell? ⟨d, 65 + t, none⟩ = some (.int .i64 (lf t)) := by
  obtain ⟨cs, A, c, hb, hC, _⟩ := h
  exact (hb.cell _).trans (hC.lf t ht)
theorem DR.cS (h : DR W d Q q pr rob lf) {p : Nat} (hp : p < 32) : ∃ A c, W.cell? ⟨d, 1 + p, none⟩ = some (.slice A (q p).length c) ∧ Row W A (q p) := by
  obtain ⟨cs, A, c, hb, hC, hR⟩ := h
  exact ⟨_, _, (hb.cell _).trans (hC.sq p hp), hR p hp⟩
theorem DR.setS (h : DR W d Q q pr rob lf) {p : Nat} (hp : p < 32) {A1 : Option Addr} {c1 n : Nat} {l : List Nat} (hn : l.length = n) (hr : Row W A1 l) :
    DR (W.setCell ⟨d, 1 + p, none⟩ (.slice A1 n c1)) d Q (setq q p l) pr rob lf := by
  subst hn
  obtain ⟨cs, A, c, hb, hC, hR⟩ := h
  have o : Only [d] W (W.setCell ⟨d, 1 + p, none⟩ (.slice A1 l.length c1)) := (Only.refl [d] W).setCell (p := ⟨d, 1 + p, none⟩) (.inl (by simp)) _
  have hz := hC.size
  refine ⟨_, fun i => if i = p then A1 else A i, fun i => if i = p then c1 else c i, hb.set_ (1 + p) _, ⟨by simpa using hz, ?_, fun i hi => ?_, fun t ht => ?_, fun t ht => ?_, fun t ht => ?_⟩, fun i hi => ?_⟩
  · rw [set_ne (by omega)]; exact hC.qu
  · by_cases e : i = p
    · subst e
      rw [setq_same, if_pos rfl, if_pos rfl]
      exact set_eq (by omega)
    · rw [setq_other _ _ e, if_neg e, if_neg e, set_ne (by omega)]
      exact hC.sq i hi
  · rw [set_ne (by omega)]; exact hC.pr t ht
  · rw [set_ne (by omega)]; exact hC.rb t ht
  · rw [set_ne (by omega)]; exact hC.lf t ht
  · by_cases e : i = p
    · subst e
      dsimp only
      rw [setq_same, if_pos rfl]
      exact hr.only o (NoRow.one hb (by decide))
    · dsimp only
      rw [setq_other _ _ e, if_neg e]
      exact (hR i hi).only o (NoRow.one hb (by decide))
theorem DR.setP (h : DR W d Q q pr rob lf) {t : Nat} (ht : t < 16) (v : Int) : DR (W.setCell ⟨d, 33 + t, none⟩ (.int .i64 v)) d Q q (upd pr t v) rob lf := by
  obtain ⟨cs, A, c, hb, hC, hR⟩ := h
  have o : Only [d] W (W.setCell ⟨d, 33 + t, none⟩ (.int .i64 v)) := (Only.refl [d] W).setCell (p := ⟨d, 33 + t, none⟩) (.inl (by simp)) _
  have hz := hC.size
  refine ⟨_, A, c, hb.set_ (33 + t) _, ⟨by simpa using hz, ?_, fun i hi => ?_, fun u hu => ?_, fun u hu => ?_, fun u hu => ?_⟩, fun i hi => (hR i hi).only o (NoRow.one hb (by decide))⟩
  · rw [set_ne (by omega)]; exact hC.qu
  · rw [set_ne (by omega)]; exact hC.sq i hi
  · by_cases e : u = t
    · subst e; rw [upd_same]; exact set_eq (by omega)
    · rw [upd_other _ _ e, set_ne (by omega)]; exact hC.pr u hu
  · rw [set_ne (by omega)]; exact hC.rb u hu
  · rw [set_ne (by omega)]; exact hC.lf u hu
theorem DR.setR (h : DR W d Q q pr rob lf) {t : Nat} (ht : t < 16) (v : Bool) : DR (W.setCell ⟨d, 49 + t, none⟩ (.bool v)) d Q q pr (updb rob t v) lf := by
  obtain ⟨cs, A, c, hb, hC, hR⟩ := h
  have o : Only [d] W (W.setCell ⟨d, 49 + t, none⟩ (.bool v)) := (Only.refl [d] W).setCell (p := ⟨d, 49 + t, none⟩) (.inl (by simp)) _
  have hz := hC.size
  refine ⟨_, A, c, hb.set_ (49 + t) _, ⟨by simpa using hz, ?_, fun i hi => ?_, fun u hu => ?_, fun u hu => ?_, fun u hu => ?_⟩, fun i hi => (hR i hi).only o (NoRow.one hb (by decide))⟩
  · rw [set_ne (by omega)]; exact hC.qu
  · rw [set_ne (by omega)]; exact hC.sq i hi
  · rw [set_ne (by omega)]; exact hC.pr u hu
  · by_cases e : u = t
    · subst e; rw [show updb rob u v u = v by simp [updb]]; exact set_eq (by omega)
    · rw [show updb rob t v u = rob u by simp [updb, e], set_ne (by omega)]; exact hC.rb u hu
  · rw [set_ne (by omega)]; exact hC.lf u hu
theorem DR.setL (h : DR W d Q q pr rob lf) {t : Nat} (ht : t < 16) (v : Int) : DR (W.setCell ⟨d, 65 + t, none⟩ (.int .i64 v)) d Q q pr rob (upd lf t v) := by
  obtain ⟨cs, A, c, hb, hC, hR⟩ := h
  have o : Only [d] W (W.setCell ⟨d, 65 + t, none⟩ (.int .i64 v)) := (Only.refl [d] W).setCell (p := ⟨d, 65 + t, none⟩) (.inl (by simp)) _
  have hz := hC.size
  refine ⟨_, A, c, hb.set_ (65 + t) _, ⟨by simpa using hz, ?_, fun i hi => ?_, fun u hu => ?_, fun u hu => ?_, fun u hu => ?_⟩, fun i hi => (hR i hi).only o (NoRow.one hb (by decide))⟩
  · rw [set_ne (by omega)]; exact hC.qu
  · rw [set_ne (by omega)]; exact hC.sq i hi
  · rw [set_ne (by omega)]; exact hC.pr u hu
  · rw [set_ne (by omega)]; exact hC.rb u hu
  · by_cases e : u = t
    · subst e; rw [upd_same]; exact set_eq (by omega)
    · rw [upd_other _ _ e, set_ne (by omega)]; exact hC.lf u hu
end
end Go.Proofs.Ytnndengdlokmbaa
