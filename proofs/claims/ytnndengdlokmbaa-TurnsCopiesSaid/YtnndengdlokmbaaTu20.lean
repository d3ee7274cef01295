/- Turns: what TurnsGreatest wants (plain). No condition. -/
import Derived.Test.YtnndengdlokmbaaTu19
namespace Go.Proofs.Ytnndengdlokmbaa
open Go.RowKit
set_option linter.unusedVariables false
set_option linter.all false
set_option maxRecDepth 20000

theorem wo_erase (t : Nat) (l : List Nat) : wo t (l.erase t) = wo t l := by
  induction l with
  | nil => rfl
  | cons u r ih =>
    by_cases h : u = t
    · subst h
      rw [List.erase_cons_head]
      simp [wo]
    · rw [List.erase_cons_tail (by simpa using h)]
      unfold wo at ih ⊢
      rw [List.filter_cons, List.filter_cons, ih]
theorem wo_cons (t : Nat) (l : List Nat) : wo t (t :: l) = wo t l := by simp [wo]
/-- Without one thread they are alike. -/
def Alike (t : Int) (q q' : Nat → List Nat) : Prop := ∀ j, wo t (q' j) = wo t (q j)
theorem Alike.refl (t : Int) (q : Nat → List Nat) : Alike t q q := fun _ => rfl
theorem Alike.trans {t : Int} {a b c : Nat → List Nat} (h : Alike t a b) (k : Alike t b c) : Alike t a c := fun j => (k j).trans (h j)
theorem Alike.setq {t : Int} {q : Nat → List Nat} {p : Nat} {l : List Nat} (h : wo t l = wo t (q p)) : Alike t q (setq q p l) := fun j => by
  unfold Ytnndengdlokmbaa.setq
  split
  · rename_i e; subst e; exact h
  · rfl
theorem alike_putT (q : Nat → List Nat) (p : Int) (t : Nat) : Alike t q (putTQ q p t) := by
  unfold putTQ
  split
  · exact Alike.setq (by rw [Int.toNat_natCast]; exact wo_no _ _ _ rfl)
  · exact Alike.refl _ _
theorem alike_putH (q : Nat → List Nat) (p : Int) (t : Nat) : Alike t q (putHQ q p t) := by
  unfold putHQ
  split
  · exact Alike.setq (by rw [Int.toNat_natCast]; exact wo_cons _ _)
  · exact Alike.refl _ _
theorem alike_rem (q : Nat → List Nat) (t : Nat) : Alike t q (remQ q t) := by
  unfold remQ
  split
  · exact Alike.setq (by rw [Int.toNat_natCast]; exact wo_erase _ _)
  · exact Alike.refl _ _
theorem alike_move (q : Nat → List Nat) (t p : Nat) (hd : Bool) : Alike t q (moveQ q t p hd) := by
  unfold moveQ
  split
  · exact (alike_rem q t).trans (alike_putH _ _ _)
  · exact (alike_rem q t).trans (alike_putT _ _ _)
theorem inC_may {s : SS} {t p : Int} (h : inC s t p = 0) : mayT t p := by
  unfold inC at h
  split at h
  · omega
  · rename_i h'
    exact Classical.not_not.1 h'
theorem addC_may {s : SS} {t p : Int} (h : addC s t p = 0) : mayT t p := by
  unfold addC at h
  split at h
  · omega
  · rename_i h'
    exact Classical.not_not.1 h'
theorem may_nat {t p : Int} (h : mayT t p) : ∃ T : Nat, t = T := ⟨t.toNat, by have := h.1; omega⟩
theorem step_alike (Q : Int) (s : SS) (kd t p : Int) (rb : Bool) (h4 : kd ≠ 4) : Alike t s.q (stepS Q s kd t p rb).q := by
  unfold stepS
  split
  · unfold sAdd
    split
    · rename_i h
      obtain ⟨T, rfl⟩ := may_nat (addC_may h)
      exact alike_putT _ _ _
    · exact Alike.refl _ _
  split
  · unfold sLeave
    split
    · rename_i h
      obtain ⟨T, rfl⟩ := may_nat (inC_may h)
      exact alike_rem _ _
    · exact Alike.refl _ _
  split
  · unfold sYield
    split
    · rename_i h
      obtain ⟨T, rfl⟩ := may_nat (inC_may h)
      rw [Int.toNat_natCast]
      dsimp only
      exact alike_move _ _ _ _
    · exact Alike.refl _ _
  split
  · unfold sPut
    split
    · rename_i h
      obtain ⟨T, rfl⟩ := may_nat (inC_may h)
      rw [Int.toNat_natCast]
      dsimp only
      exact alike_move _ _ _ _
    · exact Alike.refl _ _
  split
  · unfold sMove
    split
    · rename_i h
      obtain ⟨T, rfl⟩ := may_nat (inC_may h)
      show Alike _ _ (if _ then _ else _)
      split
      · exact Alike.refl _ _
      · exact alike_move _ _ _ _
    · exact Alike.refl _ _
  split
  · unfold sLift
    split
    · rename_i h
      obtain ⟨T, rfl⟩ := may_nat (inC_may h)
      show Alike _ _ (if _ then _ else _)
      split
      · exact Alike.refl _ _
      · exact alike_move _ _ _ _
    · exact Alike.refl _ _
  · exact Alike.refl _ _
theorem tick_alike (Q : Int) (s : SS) (t p : Int) (rb : Bool) : Alike (firstT s.q) s.q (stepS Q s 4 t p rb).q := by
  have : stepS Q s 4 t p rb = sTick Q s := by unfold stepS; simp
  rw [this]
  unfold sTick firstT
  cases hA : allQ s.q with
  | nil => exact Alike.refl _ _
  | cons y m =>
    by_cases h1 : s.rob y.2 = true
    · by_cases h2 : 1 < s.lf y.2
      · show Alike (y.2 : Int) _ (if s.rob y.2 = true then (if 1 < s.lf y.2 then _ else _) else s : SS).q
        rw [if_pos h1, if_pos h2]
        exact Alike.refl _ _
      · show Alike (y.2 : Int) _ (if s.rob y.2 = true then (if 1 < s.lf y.2 then _ else _) else s : SS).q
        rw [if_pos h1, if_neg h2]
        dsimp only
        exact alike_move _ _ _ _
    · show Alike (y.2 : Int) _ (if s.rob y.2 = true then _ else s : SS).q
      rw [if_neg h1]
      exact Alike.refl _ _
/-- Whoever is looked for, told that nobody above p is there. -/
def Fst (q : Nat → List Nat) (p : Nat) (f : Int) : Prop := (f = -1 ∧ ∀ j, p < j → j < 32 → q j = []) ∨ ∃ t : Nat, f = t ∧ allQ q ≠ [] ∧ firstT q = t
theorem Fst.start (q : Nat → List Nat) : Fst q 31 (-1) := .inl ⟨rfl, fun j h1 h2 => by omega⟩
theorem Fst.none_ {q : Nat → List Nat} {p : Nat} {f : Int} (h : Fst q (p + 1) f) (hq : q (p + 1) = []) : Fst q p f := by
  rcases h with ⟨hf, h⟩ | h
  · refine .inl ⟨hf, fun j h1 h2 => ?_⟩
    by_cases e : j = p + 1
    · subst e; exact hq
    · exact h j (by omega) h2
  · exact .inr h
theorem Fst.head {q : Nat → List Nat} {p t : Nat} {r : List Nat} (h : Fst q (p + 1) (-1)) (hp : p < 31) (hq : q (p + 1) = t :: r) : Fst q p t := by
  rcases h with ⟨hf, h⟩ | ⟨t', hf, _⟩
  · obtain ⟨h1, h2⟩ := first_top hq (by omega) (fun j h1 h2 => h j h1 h2)
    exact .inr ⟨t, rfl, h1, h2⟩
  · omega
theorem Fst.keep {q : Nat → List Nat} {p p' : Nat} {f : Int} (h : Fst q p f) (hf : 0 ≤ f) : Fst q p' f := by
  rcases h with ⟨h1, h⟩ | h
  · omega
  · exact .inr h
theorem Fst.neg {q : Nat → List Nat} {p : Nat} {f : Int} (h : Fst q p f) (hf : f < 0) : f = -1 := by
  rcases h with ⟨h1, h⟩ | ⟨t, h1, _⟩
  · exact h1
  · omega
theorem Fst.done {q : Nat → List Nat} {f : Int} (h : Fst q 0 f) (h0 : q 0 = []) : (f = -1 ∧ allQ q = []) ∨ ∃ t : Nat, f = t ∧ allQ q ≠ [] ∧ firstT q = t := by
  rcases h with ⟨hf, h⟩ | h
  · refine .inl ⟨hf, below_none _ _ fun j hj => ?_⟩
    by_cases e : j = 0
    · subst e; exact h0
    · exact h j (by omega) hj
  · exact .inr h
/-! ## What was -/
def Z36 : Array Value := Array.replicate 32 (.slice none 0 0)
theorem info36 : (Try.prog.info? 36).map (fun i => (i.zero, i.size)) = some (some (.agg Z36), 32) := by kernel_rfl
theorem zero36 (W : World) : (zeroValue 36).run Try.prog W = .ok (.agg Z36) W := (zero_of_info info36).1 W
def Z39 : Array Value := #[.int .i64 0, .int .i64 0, .int .i64 0, .bool false]
theorem info39 : (Try.prog.info? 39).map (fun i => (i.zero, i.size)) = some (some (.agg Z39), 4) := by kernel_rfl
theorem zero39 (W : World) : (zeroValue 39).run Try.prog W = .ok (.agg Z39) W := (zero_of_info info39).1 W
/-- The lists that were. -/
def WasAt (W : World) (b : Nat) (q : Nat → List Nat) (k : Nat) : Prop := ∃ cs, Blk W b 36 cs ∧ cs.size = 32 ∧ ∀ j, 1 ≤ j → j < k → ∃ A c, cs[j]? = some (.slice A (q j).length c) ∧ W.ownsRow (b + 1) 3 1 (.slice A (q j).length c) (q j).length (NV (q j))
theorem WasAt.new (W : World) (q : Nat → List Nat) : WasAt (W.alloc (.cells Z36 36)) W.heap.size q 1 := ⟨Z36, Blk.new W 36 Z36, by simp [Z36], fun j h1 h2 => by omega⟩
theorem WasAt.only {W W' : World} {b k : Nat} {q : Nat → List Nat} {S : List Nat} (h : WasAt W b q k) (o : Only S W W') (hS : ∀ x ∈ S, x < b) : WasAt W' b q k := by
  obtain ⟨cs, h1, h2, h3⟩ := h
  refine ⟨cs, h1.only o (fun h => by have := hS b h; omega), h2, fun j j1 j2 => ?_⟩
  obtain ⟨A, c, h4, h5⟩ := h3 j j1 j2
  exact ⟨A, c, h4, own_only' h5 o (fun x hx hm => by have := (own_ge h5 x hx).1; have := hS x hm; omega)⟩
theorem WasAt.far {W : World} {b k : Nat} {q : Nat → List Nat} (h : WasAt W b q k) (b2 : Nat) (cs2 : Array Value) (h2 : Blk W b2 39 cs2) (u : Nat) (v : Value) : WasAt (W.setCell ⟨b2, u, none⟩ v) b q k := by
  obtain ⟨cs, h1, hz, h3⟩ := h
  refine ⟨cs, h1.far (p := ⟨b2, u, none⟩) (Blk.ne_ h1 h2 (by decide)) v, hz, fun j j1 j2 => ?_⟩
  obtain ⟨A, c, h4, h5⟩ := h3 j j1 j2
  refine ⟨A, c, h4, own_only' h5 ((Only.refl [b2] W).setCell (p := ⟨b2, u, none⟩) (.inl (by simp)) v) (fun x hx hm => ?_)⟩
  obtain rfl : x = b2 := by simpa using hm
  exact own_ne h5 h2 (by decide) hx
theorem WasAt.store {W : World} {b k c n : Nat} {q : Nat → List Nat} {A : Option Addr} (h : WasAt W b q k) (hk : k < 32) (hn : (q k).length = n) (ho : W.ownsRow (b + 1) 3 1 (.slice A n c) n (NV (q k))) : WasAt (W.setCell ⟨b, k, none⟩ (.slice A n c)) b q (k + 1) := by
  subst hn
  obtain ⟨cs, h1, h2, h3⟩ := h
  refine ⟨_, h1.set_ k _, by simpa using h2, fun j j1 j2 => ?_⟩
  have K : ∀ {A' : Option Addr} {n' c' : Nat} {xs : List Value}, W.ownsRow (b + 1) 3 1 (.slice A' n' c') n' xs → (W.setCell ⟨b, k, none⟩ (.slice A (q k).length c)).ownsRow (b + 1) 3 1 (.slice A' n' c') n' xs := fun h5 =>
    own_only' h5 ((Only.refl [b] W).setCell (p := ⟨b, k, none⟩) (.inl (by simp)) _) (fun x hx hm => by have := (own_ge h5 x hx).1; simp at hm; omega)
  by_cases e : j = k
  · subst e
    exact ⟨A, c, set_eq (by omega), K ho⟩
  · obtain ⟨A', c', h4, h5⟩ := h3 j j1 (by omega)
    exact ⟨A', c', (set_ne (by omega)).trans h4, K h5⟩
end Go.Proofs.Ytnndengdlokmbaa
