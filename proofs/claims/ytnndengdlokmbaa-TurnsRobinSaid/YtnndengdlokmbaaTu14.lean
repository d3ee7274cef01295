/- Turns: robins of one priority (plain). No condition. -/
import Derived.Test.YtnndengdlokmbaaTu13
namespace Go.Proofs.Ytnndengdlokmbaa
open Go.RowKit
set_option linter.unusedVariables false
set_option linter.all false
set_option maxRecDepth 20000

/-- One sequence alone. -/
def oneQ (P : Nat) (l : List Nat) : Nat → List Nat := setq (fun _ => []) P l
theorem below_one (P : Nat) (l : List Nat) : ∀ n, below (oneQ P l) n = if P < n then l.map (fun t => (P, t)) else []
  | 0 => by simp [below]
  | n + 1 => by
    rw [below, below_one P l n]
    by_cases h : n = P
    · subst h
      simp [oneQ, setq_same]
    · have : oneQ P l n = [] := by unfold oneQ; rw [setq_other _ _ h]
      rw [this]
      by_cases h' : P < n
      · rw [if_pos h', if_pos (by omega)]; simp
      · rw [if_neg h', if_neg (by omega)]; simp
theorem allQ_one (P : Nat) (l : List Nat) (hP : P < 32) : allQ (oneQ P l) = l.map (fun t => (P, t)) := by
  unfold allQ
  rw [below_one, if_pos hP]
theorem prioQ_one (P : Nat) (l : List Nat) (hP : P < 32) (t : Nat) : prioQ (oneQ P l) t = if t ∈ l then P else 0 := by
  by_cases h : t ∈ l
  · rw [if_pos h]
    unfold prioQ
    have : (List.range 32).find? (fun p => (oneQ P l p).contains t) = some P := by
      rw [List.find?_range_eq_some]
      refine ⟨by unfold oneQ; rw [setq_same]; simpa using h, by simpa using hP, fun j hj => ?_⟩
      unfold oneQ
      rw [setq_other _ _ (by omega)]
      simp
    rw [this]
    rfl
  · rw [if_neg h]
    refine prioQ_zero fun p hm => ?_
    unfold oneQ setq at hm
    split at hm
    · exact h hm
    · simp at hm
theorem setq_twice (q : Nat → List Nat) (P : Nat) (l m : List Nat) : setq (setq q P l) P m = setq q P m := by
  funext j
  unfold setq
  split <;> rfl
/-- The first one goes to the tail. -/
theorem move_one (P t : Nat) (r : List Nat) (h1 : 1 ≤ P) (h2 : P ≤ 31) (ht : t < 16) (hn : t ∉ r) : moveQ (oneQ P (t :: r)) t P false = oneQ P (r ++ [t]) := by
  have hp : prioQ (oneQ P (t :: r)) t = P := by rw [prioQ_one _ _ (by omega), if_pos (by simp)]
  have hr : remQ (oneQ P (t :: r)) t = oneQ P r := by
    unfold remQ remC
    rw [if_pos (by rw [Int.toNat_natCast, hp]; simp; omega), Int.toNat_natCast, hp]
    unfold oneQ
    rw [setq_same, List.erase_cons_head, setq_twice]
  have hc : putC (oneQ P r) P t = 0 := by
    unfold putC argQ
    rw [if_neg (by simp; omega), if_neg (by rw [Int.toNat_natCast, prioQ_one _ _ (by omega), if_neg hn]; simp)]
  show putTQ (remQ (oneQ P (t :: r)) t) P t = _
  rw [hr]
  unfold putTQ
  rw [if_pos hc, Int.toNat_natCast, Int.toNat_natCast]
  unfold oneQ
  rw [setq_same, setq_twice]
/-- Whoever is k'th first. -/
def rot (T k : Nat) : List Nat := (List.range T).map fun i => (k + i) % T
theorem rot_head (m k : Nat) : rot (m + 1) k = (k % (m + 1)) :: (List.range m).map fun i => (k + 1 + i) % (m + 1) := by
  unfold rot
  rw [List.range_succ_eq_map, List.map_cons, List.map_map]
  refine congr (congrArg _ rfl) (List.map_congr_left fun i _ => ?_)
  show (k + (i + 1)) % (m + 1) = _
  congr 1
  omega
theorem rot_next (m k : Nat) : rot (m + 1) (k + 1) = ((List.range m).map fun i => (k + 1 + i) % (m + 1)) ++ [k % (m + 1)] := by
  unfold rot
  rw [List.range_succ, List.map_append]
  refine congrArg _ ?_
  show [(k + 1 + m) % (m + 1)] = _
  rw [show k + 1 + m = k + (m + 1) by omega, Nat.add_mod_right]
theorem rot_nodup (T k : Nat) : (rot T k).Nodup := by
  unfold rot
  rw [List.nodup_iff_pairwise_ne, List.pairwise_map]
  refine List.Pairwise.imp_of_mem ?_ (List.nodup_iff_pairwise_ne.1 List.nodup_range)
  intro a b ha hb hne he
  have ha := List.mem_range.1 ha
  have hb := List.mem_range.1 hb
  refine hne ?_
  have h1 := Nat.mod_add_div (k + a) T
  have h2 := Nat.mod_add_div (k + b) T
  rw [he] at h1
  rcases Nat.lt_trichotomy ((k + a) / T) ((k + b) / T) with h | h | h
  · have : T * ((k + a) / T) + T ≤ T * ((k + b) / T) := by
      have := Nat.mul_le_mul_left T (show (k + a) / T + 1 ≤ (k + b) / T by omega)
      rwa [Nat.mul_add, Nat.mul_one] at this
    omega
  · rw [h] at h1; omega
  · have : T * ((k + b) / T) + T ≤ T * ((k + a) / T) := by
      have := Nat.mul_le_mul_left T (show (k + b) / T + 1 ≤ (k + a) / T by omega)
      rwa [Nat.mul_add, Nat.mul_one] at this
    omega
/-- How robins stand behind n ticks. -/
structure Robin (T P : Nat) (Q : Nat) (n : Nat) (s : SS) : Prop where
  q : s.q = oneQ P (rot T (n / Q))
  rob : ∀ t, t < T → s.rob t = true
  lf : ∀ t, t < 16 → 0 ≤ s.lf t ∧ s.lf t ≤ 1000
  first : s.lf ((n / Q) % T) = (Q : Int) - (n % Q : Nat)
  rest : ∀ t, t < T → t ≠ (n / Q) % T → s.lf t = Q
theorem Robin.tick {T P Q n : Nat} {s : SS} (h : Robin T P Q n s) (h1 : 1 ≤ P) (h2 : P ≤ 31) (hT : 1 ≤ T) (hT2 : T ≤ 16) (hQ : 1 ≤ Q) (hQ2 : Q ≤ 100) :
    allQ s.q ≠ [] ∧ firstT s.q = ((n / Q % T : Nat) : Int) ∧ tickT s = (if n % Q = Q - 1 then some (n / Q % T) else none) ∧ Robin T P Q (n + 1) (sTick Q s) := by
  obtain ⟨m, rfl⟩ : ∃ m, T = m + 1 := ⟨T - 1, by omega⟩
  obtain ⟨k, hk⟩ : ∃ k, n / Q = k := ⟨_, rfl⟩
  have hq := h.q
  rw [hk, rot_head] at hq
  have hnd := rot_nodup (m + 1) k
  rw [rot_head, List.nodup_cons] at hnd
  have hA : allQ s.q = (P, k % (m + 1)) :: ((List.range m).map fun i => (k + 1 + i) % (m + 1)).map (fun t => (P, t)) := by rw [hq, allQ_one _ _ (by omega)]; rfl
  have hlt : k % (m + 1) < m + 1 := Nat.mod_lt _ (by omega)
  have hrob := h.rob _ hlt
  have hf := h.first
  rw [hk] at hf
  have hmod : n % Q < Q := Nat.mod_lt _ (by omega)
  have hdm := Nat.div_add_mod n Q
  rw [hk] at hdm
  refine ⟨by rw [hA]; simp, by unfold firstT; rw [hA, hk], ?_, ?_⟩
  · unfold tickT
    rw [hA]
    dsimp only
    rw [hk]
    by_cases hl : n % Q = Q - 1
    · rw [if_pos hl, if_pos ⟨hrob, by rw [hf]; omega⟩]
    · rw [if_neg hl, if_neg (fun hh => hh.2 (by rw [hf]; omega))]
  · unfold sTick
    rw [hA]
    dsimp only
    rw [if_pos hrob]
    by_cases hl : n % Q = Q - 1
    · have hn1 : (n + 1) / Q = k + 1 ∧ (n + 1) % Q = 0 := by
        have e : n + 1 = Q * (k + 1) := by rw [Nat.mul_add, Nat.mul_one]; omega
        rw [e]
        exact ⟨Nat.mul_div_cancel_left _ (by omega), Nat.mul_mod_right _ _⟩
      rw [if_neg (by rw [hf]; omega)]
      refine ⟨?_, h.rob, fun t ht => ?_, ?_, fun t ht hne => ?_⟩
      · show moveQ s.q (k % (m + 1)) P false = _
        rw [hn1.1, rot_next, hq]
        exact move_one P _ _ h1 h2 (by omega) hnd.1
      · show 0 ≤ upd s.lf (k % (m + 1)) (Q : Int) t ∧ upd s.lf (k % (m + 1)) (Q : Int) t ≤ 1000
        unfold upd
        split
        · omega
        · exact h.lf t ht
      · show upd s.lf (k % (m + 1)) (Q : Int) ((n + 1) / Q % (m + 1)) = _
        rw [hn1.1, hn1.2]
        unfold upd
        split
        · simp
        · rename_i hne
          rw [h.rest _ (Nat.mod_lt _ (by omega)) (by rw [hk]; exact hne)]
          simp
      · show upd s.lf (k % (m + 1)) (Q : Int) t = _
        unfold upd
        split
        · rfl
        · rename_i hne'
          exact h.rest t ht (by rw [hk]; exact hne')
    · have hn1 : (n + 1) / Q = k ∧ (n + 1) % Q = n % Q + 1 := by
        have e : n + 1 = (n % Q + 1) + Q * k := by omega
        have hlt' : n % Q + 1 < Q := by omega
        constructor
        · rw [e, Nat.add_mul_div_left _ _ (by omega), Nat.div_eq_of_lt hlt', Nat.zero_add]
        · rw [e, Nat.add_mul_mod_self_left, Nat.mod_eq_of_lt hlt']
      rw [if_pos (by rw [hf]; omega)]
      refine ⟨by rw [hn1.1, ← hk]; exact h.q, h.rob, fun t ht => ?_, ?_, fun t ht hne => ?_⟩
      · show 0 ≤ upd s.lf (k % (m + 1)) (s.lf (k % (m + 1)) - 1) t ∧ upd s.lf (k % (m + 1)) (s.lf (k % (m + 1)) - 1) t ≤ 1000
        unfold upd
        split
        · rw [hf]; omega
        · exact h.lf t ht
      · show upd s.lf (k % (m + 1)) _ ((n + 1) / Q % (m + 1)) = _
        rw [hn1.1, hn1.2, upd_same, hf]
        push_cast
        omega
      · show upd s.lf (k % (m + 1)) _ t = _
        rw [hn1.1] at hne
        rw [upd_other _ _ hne]
        exact h.rest t ht (by rw [hk]; exact hne)
/-- How it stands while the robins are put in. -/
structure Adds (P Q i : Nat) (s : SS) : Prop where
  q : s.q = oneQ P (List.range i)
  rob : ∀ t, t < i → s.rob t = true
  lf : ∀ t, s.lf t = if t < i then (Q : Int) else 0
theorem Adds.start (P Q : Nat) : Adds P Q 0 ⟨fun _ => [], fun _ => false, fun _ => 0⟩ := by
  refine ⟨?_, fun t h => by omega, fun t => by simp⟩
  funext j
  unfold oneQ setq
  simp
theorem Adds.step {P Q i : Nat} {s : SS} (h : Adds P Q i s) (h1 : 1 ≤ P) (h2 : P ≤ 31) (hi : i < 16) : addC s i P = 0 ∧ Adds P Q (i + 1) (sAdd Q s i P true) := by
  have hp : prioQ s.q i = 0 := by rw [h.q, prioQ_one _ _ (by omega), if_neg (by simp)]
  have hc : addC s i P = 0 := by
    unfold addC mayT
    rw [if_neg (by simp; omega), if_neg (by rw [Int.toNat_natCast]; simpa using hp)]
  refine ⟨hc, ?_⟩
  unfold sAdd
  rw [if_pos hc, Int.toNat_natCast]
  have hpc : putC s.q P i = 0 := by
    unfold putC argQ
    rw [if_neg (by simp; omega), if_neg (by rw [Int.toNat_natCast]; simpa using hp)]
  refine ⟨?_, fun t ht => ?_, fun t => ?_⟩
  · show putTQ s.q P i = _
    unfold putTQ
    rw [if_pos hpc, Int.toNat_natCast, Int.toNat_natCast, h.q]
    unfold oneQ
    rw [setq_same, setq_twice, List.range_succ]
  · show updb s.rob i true t = true
    unfold updb
    split
    · rfl
    · exact h.rob t (by omega)
  · show upd s.lf i (Q : Int) t = _
    unfold upd
    split
    · rename_i e; rw [if_pos (by omega)]
    · rename_i e
      rw [h.lf t]
      by_cases ht : t < i
      · rw [if_pos ht, if_pos (by omega)]
      · rw [if_neg ht, if_neg (by omega)]
theorem Adds.robin {P Q T : Nat} {s : SS} (h : Adds P Q T s) (hQ2 : Q ≤ 100) (hT : 1 ≤ T) : Robin T P Q 0 s := by
  refine ⟨?_, h.rob, fun t ht => ?_, ?_, fun t ht hne => by rw [h.lf, if_pos ht]⟩
  · rw [h.q, Nat.zero_div]
    congr 1
    unfold rot
    refine (List.map_id _).symm.trans (List.map_congr_left fun i hi => ?_)
    rw [Nat.zero_add, Nat.mod_eq_of_lt (List.mem_range.1 hi)]
    rfl
  · rw [h.lf]; split <;> omega
  · rw [h.lf, Nat.zero_div, Nat.zero_mod, if_pos (by omega), Nat.zero_mod]; simp
end Go.Proofs.Ytnndengdlokmbaa
