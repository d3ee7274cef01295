/- Turns: what TurnsFifo wants: the document's May; Runs said of what turns tell; who runs where nobody is a robin (plain). No condition. -/
import Derived.Test.YtnndengdlokmbaaTu13
namespace Go.Proofs.Ytnndengdlokmbaa
open Go.RowKit
set_option linter.unusedVariables false
set_option linter.all false
set_option maxRecDepth 20000

theorem BS.mono {W : World} {x g : Nat} {Q : Int} {s : SS} {B B' : Int} (h : B ≤ B') (k : BS W x g Q s B) : BS W x g Q s B' := by
  obtain ⟨st, a, b, c⟩ := k
  exact ⟨st, a, by omega, c⟩
set_option maxHeartbeats 2000000 in
theorem refMay_any (t p : Int) (m : Bool) (hm : decide (mayT t p) = m) (w : World) : Calls Try.prog 15 #[.int .i64 t, .int .i64 p] w fun e w' => e = .returned (.bool m) ∧ w = w' := by
  subst hm
  by_cases h1 : 0 ≤ t
  · by_cases h2 : t < 16
    · by_cases h3 : 1 ≤ p
      · by_cases h4 : p ≤ 31
        · rw [show decide (mayT t p) = true from decide_eq_true ⟨h1, h2, h3, h4⟩]
          go_enter Try.func15, Try.ntmps15
          go_wp2_with fail
          go_ret
          exact ⟨rfl, rfl⟩
        · rw [show decide (mayT t p) = false from decide_eq_false fun h => h4 h.2.2.2]
          go_enter Try.func15, Try.ntmps15
          go_wp2_with fail
          go_ret
          exact ⟨rfl, rfl⟩
      · rw [show decide (mayT t p) = false from decide_eq_false fun h => h3 h.2.2.1]
        go_enter Try.func15, Try.ntmps15
        go_wp2_with fail
        go_ret
        exact ⟨rfl, rfl⟩
    · rw [show decide (mayT t p) = false from decide_eq_false fun h => h2 h.2.1]
      go_enter Try.func15, Try.ntmps15
      go_wp2_with fail
      go_ret
      exact ⟨rfl, rfl⟩
  · rw [show decide (mayT t p) = false from decide_eq_false fun h => h1 h.1]
    go_enter Try.func15, Try.ntmps15
    go_wp2_with fail
    go_ret
    exact ⟨rfl, rfl⟩
/-- Runs, with a bound on the steps. -/
theorem whoB (x g : Nat) (Q : Int) (s : SS) (B B' : Int) (hB : B < 700000) (hB' : B' = B + 9) (t : Int) (b : Bool) (h1 : decide (allQ s.q ≠ []) = b) (h2 : firstT s.q = t) (W : World) (h : BS W x g Q s B) : Calls Try.prog 14 #[.pointer (some ⟨x, 0, none⟩)] W fun e w' => e = .returned (.tuple #[.int .i64 t, .bool b]) ∧ BS w' x g Q s B' ∧ Only [x, g] W w' := by
  obtain ⟨st, h3, h4, h5⟩ := h
  subst h1 h2
  refine (runs_any x g Q s.q s.rob s.lf st ⟨h3, by omega⟩ W h5).mono ?_
  rintro e w' ⟨he, ⟨st', a, b', T⟩, o'⟩
  exact ⟨he, ⟨st', by omega, by omega, T⟩, o'.mono (fun k hk => .inl (by simp at hk; simp [hk]))⟩
/-! ## Who is the first -/
theorem below_top (q : Nat → List Nat) (P t : Nat) (r : List Nat) (hq : q P = t :: r) : ∀ N, P < N → (∀ j, P < j → j < N → q j = []) → ∃ m, below q N = (P, t) :: m
  | 0, h, _ => by omega
  | N + 1, h, hj => by
    rw [below]
    by_cases e : P = N
    · subst e
      rw [hq]
      exact ⟨_, rfl⟩
    · rw [hj N (by omega) (by omega), List.map_nil, List.nil_append]
      exact below_top q P t r hq N (by omega) (fun j h1 h2 => hj j h1 (by omega))
theorem below_none (q : Nat → List Nat) : ∀ N, (∀ j, j < N → q j = []) → below q N = []
  | 0, _ => by simp [below]
  | N + 1, h => by rw [below, h N (by omega), below_none q N (fun j hj => h j (by omega))]; rfl
theorem first_top {q : Nat → List Nat} {P t : Nat} {r : List Nat} (hq : q P = t :: r) (hP : P < 32) (hj : ∀ j, P < j → j < 32 → q j = []) : allQ q ≠ [] ∧ firstT q = t := by
  obtain ⟨m, hm⟩ := below_top q P t r hq 32 hP hj
  have hA : allQ q = (P, t) :: m := hm
  unfold firstT
  rw [hA]
  exact ⟨by simp, rfl⟩
/-- How it stands while the others are put in. -/
structure Fifo (p : Nat → Int) (i : Nat) (s : SS) : Prop where
  q : ∀ j, s.q j = if 1 ≤ j ∧ j ≤ 31 then (List.range i).filter (fun t => decide (p t = j)) else []
  rob : ∀ t, s.rob t = false
  lf : ∀ t, 0 ≤ s.lf t ∧ s.lf t ≤ 1000
theorem Fifo.start (p : Nat → Int) : Fifo p 0 ⟨fun _ => [], fun _ => false, fun _ => 0⟩ := ⟨fun j => by simp, fun t => rfl, fun t => by simp⟩
theorem Fifo.free {p : Nat → Int} {i : Nat} {s : SS} (h : Fifo p i s) : prioQ s.q i = 0 := by
  refine prioQ_zero fun j hm => ?_
  rw [h.q j] at hm
  split at hm
  · simp at hm
  · simp at hm
theorem Fifo.step {p : Nat → Int} {i : Nat} {s : SS} (h : Fifo p i s) (Q : Int) (q1 : 1 ≤ Q) (q2 : Q ≤ 100) (hi : i < 16) : Fifo p (i + 1) (sAdd Q s i (p i) false) := by
  have hf := h.free
  by_cases hm : mayT i (p i)
  · have hm' := hm
    obtain ⟨-, -, p1, p2⟩ := hm'
    obtain ⟨P, hP⟩ : ∃ m : Nat, p i = m := ⟨(p i).toNat, by omega⟩
    have hc : addC s i (p i) = 0 := by
      unfold addC
      rw [if_neg (by simpa using hm), if_neg (by rw [Int.toNat_natCast]; simpa using hf)]
    have hpc : putC s.q (p i) i = 0 := by
      unfold putC argQ
      rw [if_neg (by simp; omega), if_neg (by rw [Int.toNat_natCast]; simpa using hf)]
    unfold sAdd
    rw [if_pos hc, Int.toNat_natCast]
    refine ⟨fun j => ?_, fun t => ?_, fun t => ?_⟩
    · show putTQ s.q (p i) i j = _
      unfold putTQ
      rw [if_pos hpc, Int.toNat_natCast, hP, Int.toNat_natCast, List.range_succ, List.filter_append]
      unfold setq
      by_cases e : j = P
      · subst e
        rw [if_pos rfl, h.q j, if_pos ⟨by omega, by omega⟩, if_pos ⟨by omega, by omega⟩]
        simp [hP]
      · rw [if_neg e, h.q j]
        have : [i].filter (fun t => decide (p t = (j : Int))) = [] := by
          simp; omega
        rw [this, List.append_nil]
    · show updb s.rob i false t = false
      unfold updb
      split
      · rfl
      · exact h.rob t
    · show 0 ≤ upd s.lf i Q t ∧ upd s.lf i Q t ≤ 1000
      unfold upd
      split
      · omega
      · exact h.lf t
  · have hc : addC s i (p i) = 2 := by unfold addC; rw [if_pos hm]
    unfold sAdd
    rw [if_neg (by rw [hc]; decide)]
    refine ⟨fun j => ?_, h.rob, h.lf⟩
    rw [h.q j]
    split
    · rename_i hj
      rw [List.range_succ, List.filter_append]
      have : [i].filter (fun t => decide (p t = (j : Int))) = [] := by
        simp
        intro e
        exact hm ⟨by omega, by omega, by omega, by omega⟩
      rw [this, List.append_nil]
    · rfl
theorem Fifo.tick {p : Nat → Int} {i : Nat} {s : SS} (h : Fifo p i s) (Q : Int) : tickT s = none ∧ sTick Q s = s := by
  unfold tickT sTick
  cases hA : allQ s.q with
  | nil => exact ⟨rfl, rfl⟩
  | cons x m =>
    show (if s.rob x.2 = true ∧ ¬ (1 < s.lf x.2) then some x.2 else none) = none ∧ (if s.rob x.2 = true then _ else s) = s
    rw [h.rob]
    exact ⟨by simp, by simp⟩
/-- The best so far. -/
def Best (p : Nat → Int) (i : Nat) (b : Int) : Prop := (b = -1 ∧ ∀ u, u < i → ¬ mayT u (p u)) ∨ ∃ t : Nat, b = t ∧ t < i ∧ mayT t (p t) ∧ (∀ u, u < i → mayT u (p u) → p u ≤ p t) ∧ ∀ u, u < t → mayT u (p u) → p u < p t
theorem Best.none_ {p : Nat → Int} {i : Nat} (h : Best p i (-1)) (hm : mayT i (p i)) : Best p (i + 1) i := by
  rcases h with ⟨-, h⟩ | ⟨t, ht, -⟩
  · refine .inr ⟨i, rfl, by omega, hm, fun u hu hv => ?_, fun u hu hv => absurd hv (h u hu)⟩
    by_cases e : u = i
    · subst e; exact Int.le_refl _
    · exact absurd hv (h u (by omega))
  · omega
theorem Best.not_ {p : Nat → Int} {i : Nat} {b : Int} (h : Best p i b) (hm : ¬ mayT i (p i)) : Best p (i + 1) b := by
  rcases h with ⟨hb, h⟩ | ⟨t, ht, h1, h2, h3, h4⟩
  · refine .inl ⟨hb, fun u hu => ?_⟩
    by_cases e : u = i
    · subst e; exact hm
    · exact h u (by omega)
  · refine .inr ⟨t, ht, by omega, h2, fun u hu hv => ?_, h4⟩
    by_cases e : u = i
    · subst e; exact absurd hv hm
    · exact h3 u (by omega) hv
theorem Best.more {p : Nat → Int} {i t : Nat} (h : Best p i t) (hm : mayT i (p i)) (hg : p t < p i) : Best p (i + 1) i := by
  rcases h with ⟨hb, h⟩ | ⟨t', ht, h1, h2, h3, h4⟩
  · omega
  · obtain rfl : t = t' := by omega
    refine .inr ⟨i, rfl, by omega, hm, fun u hu hv => ?_, fun u hu hv => ?_⟩
    · by_cases e : u = i
      · subst e; exact Int.le_refl _
      · have := h3 u (by omega) hv; omega
    · have := h3 u (by omega) hv; omega
theorem Best.less {p : Nat → Int} {i t : Nat} (h : Best p i t) (hg : ¬ p t < p i) : Best p (i + 1) t := by
  rcases h with ⟨hb, h⟩ | ⟨t', ht, h1, h2, h3, h4⟩
  · omega
  · obtain rfl : t = t' := by omega
    refine .inr ⟨t, rfl, by omega, h2, fun u hu hv => ?_, h4⟩
    by_cases e : u = i
    · subst e; omega
    · exact h3 u (by omega) hv
theorem filter_first {α : Type} (f : Nat → Bool) (t : Nat) (ht : f t = true) (hu : ∀ u, u < t → f u = false) : ∀ n, t < n → ∃ r, (List.range n).filter f = t :: r
  | 0, h => by omega
  | n + 1, h => by
    rw [List.range_succ, List.filter_append]
    by_cases e : t = n
    · subst e
      have : (List.range t).filter f = [] := by
        rw [List.filter_eq_nil_iff]
        intro u hm
        rw [hu u (List.mem_range.1 hm)]
        simp
      rw [this]
      exact ⟨[], by simp [ht]⟩
    · obtain ⟨r, hr⟩ := filter_first (α := α) f t ht hu n (by omega)
      rw [hr]
      exact ⟨_, rfl⟩
theorem Best.first {p : Nat → Int} {n : Nat} {b : Int} {s : SS} (h : Best p n b) (hF : Fifo p n s) (hn : n ≤ 16) :
    (b = -1 ∧ allQ s.q = []) ∨ ∃ t : Nat, b = t ∧ t < n ∧ allQ s.q ≠ [] ∧ firstT s.q = t := by
  rcases h with ⟨hb, h⟩ | ⟨t, ht, h1, h2, h3, h4⟩
  · refine .inl ⟨hb, below_none _ _ fun j hj => ?_⟩
    rw [hF.q j]
    split
    · rename_i hj'
      rw [List.filter_eq_nil_iff]
      intro u hm
      have := List.mem_range.1 hm
      simp
      intro e
      exact h u this ⟨by omega, by omega, by omega, by omega⟩
    · rfl
  · have h2' := h2
    obtain ⟨-, -, p1, p2⟩ := h2'
    obtain ⟨P, hP⟩ : ∃ m : Nat, p t = m := ⟨(p t).toNat, by omega⟩
    obtain ⟨r, hr⟩ := filter_first (α := Nat) (fun u => decide (p u = (P : Int))) t (by simp [hP]) (fun u hu => by
      simp
      intro e
      have := h4 u hu ⟨by omega, by omega, by omega, by omega⟩
      omega) n h1
    have hq : s.q P = t :: r := by rw [hF.q P, if_pos ⟨by omega, by omega⟩]; exact hr
    obtain ⟨f1, f2⟩ := first_top hq (by omega) (fun j h5 h6 => by
      rw [hF.q j, if_pos ⟨by omega, by omega⟩, List.filter_eq_nil_iff]
      intro u hm
      have hu := List.mem_range.1 hm
      simp
      intro e
      have := h3 u hu ⟨by omega, by omega, by omega, by omega⟩
      omega)
    exact .inr ⟨t, ht, h1, f1, f2⟩
end Go.Proofs.Ytnndengdlokmbaa
