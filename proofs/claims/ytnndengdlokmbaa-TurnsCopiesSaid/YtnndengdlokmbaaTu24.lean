/- Turns: what the document's goes and take make of the sequences (plain). No condition. -/
import Derived.Test.YtnndengdlokmbaaTu23
namespace Go.Proofs.Ytnndengdlokmbaa
open Go.RowKit
set_option linter.unusedVariables false
set_option linter.all false
set_option maxRecDepth 20000

/-- Sequences that a ready list has. -/
def QOk (q : Nat → List Nat) : Prop := ∃ W g st, RL W g q st
theorem BS.ok {W : World} {x g : Nat} {Q : Int} {s : SS} {B : Int} (h : BS W x g Q s B) : QOk s.q := by
  obtain ⟨st, _, _, T⟩ := h
  exact ⟨W, g, st, T.2⟩
section
variable {q : Nat → List Nat} {t p : Nat}
theorem QOk.zero (h : QOk q) : q 0 = [] := by obtain ⟨W, g, st, h⟩ := h; exact h.facts.1
theorem QOk.len (h : QOk q) (p : Nat) : (q p).length ≤ 16 := by obtain ⟨W, g, st, h⟩ := h; exact h.facts.2.1 p
theorem QOk.pr (h : QOk q) (hin : prioQ q t ≠ 0) : 1 ≤ prioQ q t ∧ prioQ q t ≤ 31 := by
  obtain ⟨W, g, st, h⟩ := h
  exact (h.mem_lt (prioQ_in hin)).2
theorem QOk.plt (h : QOk q) (t : Nat) : prioQ q t < 32 := by
  by_cases hz : prioQ q t = 0
  · omega
  · have := h.pr hz; omega
theorem wo_er (h : QOk q) (p : Nat) : wo t (q p) = (q p).erase t := by
  obtain ⟨W, g, st, h⟩ := h
  rw [(h.facts.2.2.1 p).erase_eq_filter]
  unfold wo
  refine List.filter_congr fun u _ => ?_
  by_cases e : u = t
  · simp [e]
  · have : (u : Int) ≠ t := by omega
    simp [e, this]
theorem takeQ_rem (h : QOk q) (ht : t < 16) (hin : prioQ q t ≠ 0) : setq q (prioQ q t) (wo t (q (prioQ q t))) = remQ q t := by
  unfold remQ remC
  rw [if_pos (by simp [hin]; omega), Int.toNat_natCast, wo_er h]
theorem takeQ_zero (h : QOk q) : setq q 0 (wo t (q 0)) = q := by
  funext j
  unfold setq
  split
  · rename_i e; subst e; rw [h.zero]; rfl
  · rfl
theorem rem_no (h : QOk q) (ht : t < 16) (hin : prioQ q t ≠ 0) (j : Nat) : t ∉ remQ q t j := by
  obtain ⟨W, g, st, h⟩ := h
  unfold remQ remC
  rw [if_pos (by simp [hin]; omega), Int.toNat_natCast]
  by_cases e : j = prioQ q t
  · subst e
    rw [setq_same, (h.facts.2.2.1 _).mem_erase_iff]
    simp
  · rw [setq_other _ _ e]
    exact fun hm => e (h.prio_mem hm).symm
theorem goQ_move (h : QOk q) (ht : t < 16) (hin : prioQ q t ≠ 0) (h1 : 1 ≤ p) (h2 : p ≤ 31) (hd : Bool) : goQ q (prioQ q t) t p hd = moveQ q t p hd := by
  unfold goQ
  rw [takeQ_rem h ht hin]
  have hc : putC (remQ q t) p t = 0 := by
    unfold putC argQ
    rw [if_neg (by simp; omega), if_neg (by rw [Int.toNat_natCast, prioQ_zero (rem_no h ht hin)]; simp)]
  unfold moveQ putHQ putTQ
  rw [if_pos hc, if_pos hc, Int.toNat_natCast, Int.toNat_natCast]
  cases hd <;> simp
theorem goQ_add (h : QOk q) (ht : t < 16) (hz : prioQ q t = 0) (h1 : 1 ≤ p) (h2 : p ≤ 31) : goQ q 0 t p false = putTQ q p t := by
  unfold goQ
  rw [takeQ_zero h]
  have hc : putC q p t = 0 := by
    unfold putC argQ
    rw [if_neg (by simp; omega), if_neg (by rw [Int.toNat_natCast, hz]; simp)]
  unfold putTQ
  rw [if_pos hc, Int.toNat_natCast, Int.toNat_natCast]
  simp
theorem pr_move (h : QOk q) (ht : t < 16) (h1 : 1 ≤ p) (h2 : p ≤ 31) (hd : Bool) (h' : QOk (moveQ q t p hd)) (u : Nat) : upd (fun u => (prioQ q u : Int)) t p u = (prioQ (moveQ q t p hd) u : Int) := by
  obtain ⟨W, g, st, h⟩ := h
  obtain ⟨W', g', st', h'⟩ := h'
  rw [moveQ_prio h ht h1 h2 hd h' u]
  unfold upd
  split <;> rfl
theorem pr_add (h : QOk q) (ht : t < 16) (h1 : 1 ≤ p) (h2 : p ≤ 31) (hz : prioQ q t = 0) (h' : QOk (putTQ q p t)) (u : Nat) : upd (fun u => (prioQ q u : Int)) t p u = (prioQ (putTQ q p t) u : Int) := by
  obtain ⟨W, g, st, h⟩ := h
  obtain ⟨W', g', st', h'⟩ := h'
  rw [addQ_prio h ht h1 h2 hz h' u]
  unfold upd
  split <;> rfl
theorem pr_rem (h : QOk q) (ht : t < 16) (hz : prioQ q t ≠ 0) (h' : QOk (remQ q t)) (u : Nat) : upd (fun u => (prioQ q u : Int)) t 0 u = (prioQ (remQ q t) u : Int) := by
  obtain ⟨W, g, st, h⟩ := h
  obtain ⟨W', g', st', h'⟩ := h'
  rw [remQ_prio h ht hz h' u]
  unfold upd
  split <;> rfl
end
/-- The document's turns. -/
def DT (W : World) (d : Nat) (Q : Int) (s : SS) : Prop := DR W d Q s.q (fun t => (prioQ s.q t : Int)) s.rob s.lf
theorem DR.to {W : World} {d : Nat} {Q : Int} {q : Nat → List Nat} {pr lf : Nat → Int} {rob : Nat → Bool} (h : DR W d Q q pr rob lf) {s : SS} (h1 : q = s.q) (h2 : ∀ t, pr t = (prioQ s.q t : Int)) (h3 : rob = s.rob) (h4 : lf = s.lf) : DT W d Q s := by
  subst h1 h3 h4
  have : pr = fun t => (prioQ s.q t : Int) := funext h2
  subst this
  exact h
end Go.Proofs.Ytnndengdlokmbaa
