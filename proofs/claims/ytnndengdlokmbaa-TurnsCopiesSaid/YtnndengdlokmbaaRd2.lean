/- Ready lists: what a list of threads by priorities is, and how it turns (plain). No condition. -/
import Derived.Test.YtnndengdlokmbaaRd1
namespace Go.Proofs.Ytnndengdlokmbaa
set_option linter.unusedVariables false
set_option linter.all false

def setq (q : Nat → List Nat) (p : Nat) (l : List Nat) : Nat → List Nat := fun j => if j = p then l else q j
theorem setq_same (q : Nat → List Nat) (p : Nat) (l : List Nat) : setq q p l p = l := by simp [setq]
theorem setq_other (q : Nat → List Nat) {p j : Nat} (l : List Nat) (h : j ≠ p) : setq q p l j = q j := by simp [setq, h]
/-- What the links, the priorities and the bits tell. -/
structure Rep (s : RS) (prio : Nat → Int) (bits : Nat) (q : Nat → List Nat) : Prop where
  dl : ∀ p, 1 ≤ p → p ≤ 31 → Dl s p (q p)
  nd : ∀ p, (q p).Nodup
  lt : ∀ p t, t ∈ q p → t < 16
  dj : ∀ p p' t, t ∈ q p → t ∈ q p' → p = p'
  out : ∀ p t, t ∈ q p → 1 ≤ p ∧ p ≤ 31
  pr0 : ∀ t, t < 16 → (∀ p, t ∉ q p) → prio t = 0
  pr1 : ∀ p t, t ∈ q p → prio t = (p : Int)
  bit : ∀ p, bits.testBit p = decide (q p ≠ [])
theorem Rep.free {s : RS} {prio : Nat → Int} {bits : Nat} {q : Nat → List Nat} (h : Rep s prio bits q) {t : Nat} (ht : prio t = 0) (p : Nat) : t ∉ q p := fun hm => by
  have h1 := h.pr1 p t hm
  have h2 := (h.out p t hm).1
  omega
theorem Rep.inq {s : RS} {prio : Nat → Int} {bits : Nat} {q : Nat → List Nat} (h : Rep s prio bits q) {t : Nat} (hl : t < 16) (ht : prio t ≠ 0) : ∃ p, t ∈ q p ∧ prio t = (p : Int) ∧ 1 ≤ p ∧ p ≤ 31 := by
  by_cases hp : ∃ p, t ∈ q p
  · obtain ⟨p, hp⟩ := hp
    exact ⟨p, hp, h.pr1 p t hp, h.out p t hp⟩
  · exact absurd (h.pr0 t hl (fun p hm => hp ⟨p, hm⟩)) ht
/-- A sequence with one more. -/
theorem Rep.more {s s' : RS} {prio : Nat → Int} {bits : Nat} {q : Nat → List Nat} (h : Rep s prio bits q) {p t : Nat} {l : List Nat} (h1 : 1 ≤ p) (h2 : p ≤ 31) (hl : t < 16) (ht : prio t = 0)
    (hm : ∀ v, v ∈ l ↔ v = t ∨ v ∈ q p) (hn : l.Nodup) (hs : Dl s' p l) (ho : ∀ p', 1 ≤ p' → p' ≤ 31 → p' ≠ p → Dl s' p' (q p')) :
    Rep s' (upd prio t p) (bits ||| 1 <<< p) (setq q p l) := by
  have hf := h.free ht
  have hne : l ≠ [] := by rintro rfl; have := (hm t).2 (.inl rfl); simp at this
  refine ⟨fun p' a b => ?_, fun p' => ?_, fun p' v hv => ?_, fun a b v ha hb => ?_, fun p' v hv => ?_, fun v hv hno => ?_, fun p' v hv => ?_, fun p' => ?_⟩
  · by_cases e : p' = p
    · subst e; rw [setq_same]; exact hs
    · rw [setq_other _ _ e]; exact ho p' a b e
  · by_cases e : p' = p
    · subst e; rw [setq_same]; exact hn
    · rw [setq_other _ _ e]; exact h.nd p'
  · by_cases e : p' = p
    · subst e
      rw [setq_same] at hv
      rcases (hm v).1 hv with rfl | hv
      · exact hl
      · exact h.lt _ _ hv
    · rw [setq_other _ _ e] at hv; exact h.lt _ _ hv
  · by_cases ea : a = p <;> by_cases eb : b = p
    · rw [ea, eb]
    · subst ea
      rw [setq_same] at ha
      rw [setq_other _ _ eb] at hb
      rcases (hm v).1 ha with rfl | ha
      · exact absurd hb (hf b)
      · exact h.dj _ _ v ha hb
    · subst eb
      rw [setq_same] at hb
      rw [setq_other _ _ ea] at ha
      rcases (hm v).1 hb with rfl | hb
      · exact absurd ha (hf a)
      · exact h.dj _ _ v ha hb
    · rw [setq_other _ _ ea] at ha
      rw [setq_other _ _ eb] at hb
      exact h.dj _ _ v ha hb
  · by_cases e : p' = p
    · subst e; exact ⟨h1, h2⟩
    · rw [setq_other _ _ e] at hv; exact h.out _ _ hv
  · have hvt : v ≠ t := by rintro rfl; exact hno p (by rw [setq_same]; exact (hm v).2 (.inl rfl))
    rw [upd_other _ _ hvt]
    refine h.pr0 v hv (fun p' hv' => ?_)
    by_cases e : p' = p
    · subst e; exact hno p' (by rw [setq_same]; exact (hm v).2 (.inr hv'))
    · exact hno p' (by rw [setq_other _ _ e]; exact hv')
  · by_cases e : p' = p
    · subst e
      rw [setq_same] at hv
      by_cases hvt : v = t
      · subst hvt; exact upd_same _ _ _
      · rw [upd_other _ _ hvt]
        rcases (hm v).1 hv with h' | h'
        · exact absurd h' hvt
        · exact h.pr1 _ _ h'
    · rw [setq_other _ _ e] at hv
      have hvt : v ≠ t := by rintro rfl; exact hf p' hv
      rw [upd_other _ _ hvt]
      exact h.pr1 _ _ hv
  · rw [Nat.testBit_or, h.bit, Nat.one_shiftLeft, Nat.testBit_two_pow]
    by_cases e : p' = p
    · subst e
      rw [setq_same]
      simp [hne]
    · rw [setq_other _ _ e]
      simp [Ne.symm e]
theorem Rep.putT {s : RS} {prio : Nat → Int} {bits : Nat} {q : Nat → List Nat} (h : Rep s prio bits q) {p t : Nat} (h1 : 1 ≤ p) (h2 : p ≤ 31) (hl : t < 16) (ht : prio t = 0) :
    Rep (s.putT p t) (upd prio t p) (bits ||| 1 <<< p) (setq q p (q p ++ [t])) := by
  have hf := h.free ht
  refine h.more h1 h2 hl ht (fun v => by simp [or_comm]) ?_ (putT_same s p t _ (h.dl p h1 h2) (hf p) (h.nd p)) (fun p' a b e => putT_other s p t _ (h.dl p h1 h2) (h.dl p' a b) e (hf p') (fun v hv hv' => e (h.dj _ _ v hv' hv)))
  rw [List.nodup_append]
  refine ⟨h.nd p, by simp, fun a ha b hb => ?_⟩
  simp at hb
  subst hb
  rintro rfl
  exact hf p ha
theorem Rep.putH {s : RS} {prio : Nat → Int} {bits : Nat} {q : Nat → List Nat} (h : Rep s prio bits q) {p t : Nat} (h1 : 1 ≤ p) (h2 : p ≤ 31) (hl : t < 16) (ht : prio t = 0) :
    Rep (s.putH p t) (upd prio t p) (bits ||| 1 <<< p) (setq q p (t :: q p)) := by
  have hf := h.free ht
  exact h.more h1 h2 hl ht (fun v => by simp) (List.nodup_cons.2 ⟨hf p, h.nd p⟩) (putH_same s p t _ (h.dl p h1 h2) (hf p) (h.nd p)) (fun p' a b e => putH_other s p t _ (h.dl p h1 h2) (h.dl p' a b) e (hf p') (fun v hv hv' => e (h.dj _ _ v hv' hv)))
/-- A sequence with one fewer. -/
theorem Rep.less {s : RS} {prio : Nat → Int} {bits bits' : Nat} {q : Nat → List Nat} (h : Rep s prio bits q) {p t : Nat} {A B : List Nat} (hq : q p = A ++ t :: B)
    (hb : ∀ j, bits'.testBit j = if j = p then decide (A ++ B ≠ []) else bits.testBit j) : Rep (s.del p t) (upd prio t 0) bits' (setq q p (A ++ B)) := by
  have hm : t ∈ q p := by rw [hq]; simp
  obtain ⟨h1, h2⟩ := h.out p t hm
  have hD : Dl s p (A ++ t :: B) := hq ▸ h.dl p h1 h2
  have hN : (A ++ t :: B).Nodup := hq ▸ h.nd p
  have hsub : ∀ v, v ∈ A ++ B → v ∈ q p := fun v hv => by rw [hq]; simp at hv ⊢; rcases hv with h | h <;> simp [h]
  have hnt : t ∉ A ++ B := by
    rw [List.nodup_append, List.nodup_cons] at hN
    intro ht
    rcases List.mem_append.1 ht with h' | h'
    · exact hN.2.2 t h' t (by simp) rfl
    · exact hN.2.1.1 h'
  refine ⟨fun p' a b => ?_, fun p' => ?_, fun p' v hv => ?_, fun a b v ha hb => ?_, fun p' v hv => ?_, fun v hv hno => ?_, fun p' v hv => ?_, fun p' => ?_⟩
  · by_cases e : p' = p
    · subst e; rw [setq_same]; exact del_same s p' t A B hD hN
    · rw [setq_other _ _ e]; exact del_other s p t A B hD (h.dl p' a b) e (fun v hv hv' => e (h.dj _ _ v hv' (hq ▸ hv)))
  · by_cases e : p' = p
    · subst e; rw [setq_same]; exact hN.sublist (List.Sublist.append_left (List.sublist_cons_self t B) A)
    · rw [setq_other _ _ e]; exact h.nd p'
  · by_cases e : p' = p
    · subst e; rw [setq_same] at hv; exact h.lt _ _ (hsub v hv)
    · rw [setq_other _ _ e] at hv; exact h.lt _ _ hv
  · have ha' : v ∈ q a := by
      by_cases e : a = p
      · subst e; rw [setq_same] at ha; exact hsub v ha
      · rwa [setq_other _ _ e] at ha
    have hb' : v ∈ q b := by
      by_cases e : b = p
      · subst e; rw [setq_same] at hb; exact hsub v hb
      · rwa [setq_other _ _ e] at hb
    exact h.dj _ _ v ha' hb'
  · by_cases e : p' = p
    · subst e; exact ⟨h1, h2⟩
    · rw [setq_other _ _ e] at hv; exact h.out _ _ hv
  · by_cases hvt : v = t
    · subst hvt; exact upd_same _ _ _
    · rw [upd_other _ _ hvt]
      refine h.pr0 v hv (fun p' hv' => ?_)
      by_cases e : p' = p
      · subst e
        refine hno p' ?_
        rw [setq_same]
        rw [hq] at hv'
        simp at hv' ⊢
        rcases hv' with h' | h' | h'
        · exact .inl h'
        · exact absurd h' hvt
        · exact .inr h'
      · exact hno p' (by rw [setq_other _ _ e]; exact hv')
  · by_cases e : p' = p
    · subst e
      rw [setq_same] at hv
      have hvt : v ≠ t := by rintro rfl; exact hnt hv
      rw [upd_other _ _ hvt]
      exact h.pr1 _ _ (hsub v hv)
    · rw [setq_other _ _ e] at hv
      have hvt : v ≠ t := by rintro rfl; exact e (h.dj _ _ v hv hm)
      rw [upd_other _ _ hvt]
      exact h.pr1 _ _ hv
  · rw [hb p']
    by_cases e : p' = p
    · subst e; rw [if_pos rfl, setq_same]
    · rw [if_neg e, setq_other _ _ e]; exact h.bit p'
end Go.Proofs.Ytnndengdlokmbaa
