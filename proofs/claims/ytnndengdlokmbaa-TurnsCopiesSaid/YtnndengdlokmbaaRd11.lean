/- Ready lists: the greatest bit and the sequences below it (plain). No condition. -/
import Derived.Test.YtnndengdlokmbaaRd10
import Derived.Test.YtnndengdlokmbaaShelf
namespace Go.Proofs.Ytnndengdlokmbaa
set_option linter.unusedVariables false
set_option linter.all false

/-- All below a priority, the greatest first. -/
def below (q : Nat → List Nat) : Nat → List (Nat × Nat)
  | 0 => []
  | P + 1 => (q P).map (fun t => (P, t)) ++ below q P
def allQ (q : Nat → List Nat) : List (Nat × Nat) := below q 32
theorem bitLen_top (x p : Nat) (hx : x < 2 ^ 64) (h1 : x.testBit p = true) (h2 : ∀ j, p < j → x.testBit j = false) : Lib.bitLen x = p + 1 := by
  have hge : 2 ^ p ≤ x := Nat.ge_two_pow_of_testBit h1
  have hlt : x < 2 ^ (p + 1) := Nat.lt_pow_two_of_testBit x (fun j hj => h2 j (by omega))
  rw [Lib.bitLen_shift p x hge hx]
  have : x / 2 ^ p = 1 := by
    rw [Nat.pow_succ] at hlt
    exact Nat.div_eq_of_lt_le (by omega) (by omega)
  rw [this]
  rfl
section
variable {s : RS} {prio : Nat → Int} {bits : Nat} {q : Nat → List Nat}
theorem Rep.bits_top (h : Rep s prio bits q) : ∀ P, P ≤ 32 → (bits % 2 ^ P = 0 ∧ below q P = []) ∨ ∃ p, p < P ∧ 1 ≤ p ∧ p ≤ 31 ∧ Lib.bitLen (bits % 2 ^ P) = p + 1 ∧ q p ≠ [] ∧ below q P = (q p).map (fun t => (p, t)) ++ below q p ∧ bits % 2 ^ P &&& (4294967295 - 1 <<< p) = bits % 2 ^ p ∧ bits % 2 ^ P ≠ 0 ∧ bits % 2 ^ p < bits % 2 ^ P
  | 0, _ => .inl ⟨by simp [Nat.mod_one], rfl⟩
  | P + 1, hP => by
    by_cases hq : q P = []
    · have hb : bits % 2 ^ (P + 1) = bits % 2 ^ P := by
        refine Nat.eq_of_testBit_eq (fun j => ?_)
        rw [Nat.testBit_mod_two_pow, Nat.testBit_mod_two_pow]
        by_cases e : j = P
        · subst e
          have := h.bit j
          rw [hq] at this
          simp [this]
        · by_cases hj : j < P
          · simp [hj, show j < P + 1 by omega]
          · simp [hj, show ¬ j < P + 1 by omega]
      rw [hb]
      have hbel : below q (P + 1) = below q P := by simp [below, hq]
      rw [hbel]
      rcases h.bits_top P (by omega) with h1 | ⟨p, a1, a2⟩
      · exact .inl h1
      · exact .inr ⟨p, by omega, a2⟩
    · have hm : ∃ t, t ∈ q P := List.exists_mem_of_ne_nil _ hq
      obtain ⟨t, ht⟩ := hm
      obtain ⟨h1, h2⟩ := h.out P t ht
      have hbit : (bits % 2 ^ (P + 1)).testBit P = true := by
        rw [Nat.testBit_mod_two_pow, h.bit]; simp [hq]
      have hlt : bits % 2 ^ (P + 1) < 4294967296 := Nat.lt_of_le_of_lt (Nat.mod_le _ _) h.bits_lt
      have hp : (2 : Nat) ^ P < 2 ^ 32 := Nat.pow_lt_pow_right (by omega) (by omega)
      refine .inr ⟨P, by omega, h1, h2, ?_, hq, rfl, ?_, ?_, Nat.lt_of_lt_of_le (Nat.mod_lt _ (Nat.two_pow_pos P)) (Nat.ge_two_pow_of_testBit hbit)⟩
      · refine bitLen_top _ P (Nat.lt_trans hlt (by decide)) hbit (fun j hj => ?_)
        rw [Nat.testBit_mod_two_pow]; simp [show ¬ j < P + 1 by omega]
      · refine Nat.eq_of_testBit_eq (fun j => ?_)
        rw [Nat.testBit_and, Nat.testBit_mod_two_pow, Nat.testBit_mod_two_pow, Nat.one_shiftLeft, show 4294967295 - 2 ^ P = 2 ^ 32 - (2 ^ P + 1) by omega, Nat.testBit_two_pow_sub_succ hp, Nat.testBit_two_pow]
        by_cases e : j = P
        · subst e; simp
        · by_cases hj : j < P
          · simp [hj, show j < P + 1 by omega, Ne.symm e, show j < 32 by omega]
          · simp [hj, show ¬ j < P + 1 by omega]
      · intro h0
        rw [h0] at hbit
        simp at hbit
theorem Rep.bits_mod (h : Rep s prio bits q) : bits % 2 ^ 32 = bits := Nat.mod_eq_of_lt h.bits_lt
end
end Go.Proofs.Ytnndengdlokmbaa
