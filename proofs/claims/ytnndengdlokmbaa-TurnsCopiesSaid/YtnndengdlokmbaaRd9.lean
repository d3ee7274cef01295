/- Ready lists: plain words that join the walks to the sequences. No condition. -/
import Derived.Test.YtnndengdlokmbaaRd8
namespace Go.Proofs.Ytnndengdlokmbaa
set_option linter.unusedVariables false
set_option linter.all false

section
variable {s : RS} {prio : Nat → Int} {bits : Nat} {q : Nat → List Nat}
theorem atI_link {l : List Nat} (h : ∀ v ∈ l, v < 16) (i : Nat) : link? (atI l i) := by
  unfold atI
  cases hx : l[i]? with
  | none => exact .inl rfl
  | some t => exact .inr ⟨t, h t (List.mem_of_getElem? hx), rfl⟩
theorem lastI_link {l : List Nat} (h : ∀ v ∈ l, v < 16) : link? (lastI l) := by
  unfold lastI
  split
  · exact .inl rfl
  · exact atI_link h _
theorem Rep.tail_link (h : Rep s prio bits q) {p : Nat} (h1 : 1 ≤ p) (h2 : p ≤ 31) : link? (s.tail p) := by
  rw [(h.dl p h1 h2).tail]; exact lastI_link (h.lt p)
theorem Rep.head_link (h : Rep s prio bits q) {p : Nat} (h1 : 1 ≤ p) (h2 : p ≤ 31) : link? (s.head p) := by
  rw [(h.dl p h1 h2).head]; exact atI_link (h.lt p) 0
theorem Rep.links (h : Rep s prio bits q) {p t : Nat} {A B : List Nat} (hq : q p = A ++ t :: B) : link? (s.prev t) ∧ link? (s.next t) := by
  have hm : t ∈ q p := by rw [hq]; simp
  obtain ⟨h1, h2⟩ := h.out p t hm
  have hD : Dl s p (A ++ t :: B) := hq ▸ h.dl p h1 h2
  obtain ⟨e1, e2⟩ := del_links s p t A B hD
  rw [e1, e2]
  have hl : ∀ v ∈ A ++ t :: B, v < 16 := hq ▸ h.lt p
  exact ⟨lastI_link (fun v hv => hl v (by simp [hv])), atI_link (fun v hv => hl v (by simp [hv])) 0⟩
/-- The bits behind a removal. -/
theorem Rep.bits_del (h : Rep s prio bits q) {p t : Nat} {A B : List Nat} (hq : q p = A ++ t :: B) (j : Nat) :
    (if (s.del p t).head p = -1 then bits &&& (4294967295 - 1 <<< p) else bits).testBit j = if j = p then decide (A ++ B ≠ []) else bits.testBit j := by
  have hm : t ∈ q p := by rw [hq]; simp
  obtain ⟨h1, h2⟩ := h.out p t hm
  have hD : Dl s p (A ++ t :: B) := hq ▸ h.dl p h1 h2
  have hN : (A ++ t :: B).Nodup := hq ▸ h.nd p
  have hd := (del_same s p t A B hD hN).head
  have hp : (2 : Nat) ^ p < 2 ^ 32 := Nat.pow_lt_pow_right (by omega) (by omega)
  have hjp : 32 ≤ j → bits.testBit j = false := fun hj => by
    rw [h.bit]
    have : q j = [] := by
      cases hqj : q j with
      | nil => rfl
      | cons v r => have := h.out j v (by rw [hqj]; simp); omega
    simp [this]
  rw [hd]
  by_cases hn : A ++ B = []
  · rw [hn, if_pos (by rfl), Nat.testBit_and, Nat.one_shiftLeft, show 4294967295 - 2 ^ p = 2 ^ 32 - (2 ^ p + 1) by omega, Nat.testBit_two_pow_sub_succ hp, Nat.testBit_two_pow]
    by_cases e : j = p
    · subst e; simp
    · rw [if_neg e]
      by_cases hj : j < 32
      · simp [hj, Ne.symm e]
      · rw [hjp (by omega)]; simp
  · have hne : atI (A ++ B) 0 ≠ -1 := by
      cases hab : A ++ B with
      | nil => exact absurd hab hn
      | cons v r => simp [atI, neg_ne]
    rw [if_neg hne]
    by_cases e : j = p
    · subst e
      rw [if_pos rfl, h.bit, hq]
      simp [hn]
    · rw [if_neg e]
theorem Rep.del (h : Rep s prio bits q) {p t : Nat} {A B : List Nat} (hq : q p = A ++ t :: B) : Rep (s.del p t) (upd prio t 0) (if (s.del p t).head p = -1 then bits &&& (4294967295 - 1 <<< p) else bits) (setq q p (A ++ B)) :=
  h.less hq (h.bits_del hq)
theorem Rep.bits_lt (h : Rep s prio bits q) : bits < 4294967296 := by
  refine Nat.lt_pow_two_of_testBit bits (n := 32) (fun j hj => ?_)
  rw [h.bit]
  have : q j = [] := by
    cases hqj : q j with
    | nil => rfl
    | cons v r => have := h.out j v (by rw [hqj]; simp); omega
  simp [this]
end
end Go.Proofs.Ytnndengdlokmbaa
