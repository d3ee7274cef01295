/- Signals, the program's: Next, as one law. Condition: the signals lie, or are not there. -/
import Derived.Test.YtnmlcijkggfhmaaSg8
namespace Go.Proofs.Ytnmlcijkggfhmaa
open Go.RowKit
set_option linter.unusedVariables false
set_option linter.all false
set_option maxRecDepth 20000

/-- What is pending behind Next. -/
def nextL (T : Nat) (L : List Snt) (t : Int) (W : Nat) : List Snt := match peekI T L t W with
  | none => L
  | some x => takeL L t.toNat x.1
theorem next_no (s : Option Addr) (t : Int) (W : Nat) (hW : W < 4294967296) (w : World) (h : NoSig (.pointer s) w) : Calls Try.prog 11 #[.pointer s, .int .i64 t, .int .u32 W] w fun e w' => e = .returned (sigV none) ∧ Only [] w w' :=
  next_none s t W w (fun V o => peek_no s t W hW V (h.only0 o))
theorem next_spec {w : World} {g mb T S : Nat} {L : List Snt} {M : Nat → Nat} {Bs : List Nat} (h : SG w g mb T S L M Bs) (t : Int) (W : Nat) (hW : W < 4294967296) :
    Calls Try.prog 11 #[ptr g, .int .i64 t, .int .u32 W] w fun e w' => e = .returned (sigV (peekI T L t W)) ∧ SG w' g mb T S (nextL T L t W) M Bs ∧ Only [g, mb] w w' := by
  have hP : ∀ V, Only [] w V → Calls Try.prog 23 #[ptr g, .int .i64 t, .int .u32 W] V fun e w' => e = .returned (sigV (peekI T L t W)) ∧ Only [] V w' := fun V o => peek_spec (h.only0 o) t W hW
  unfold nextL
  cases hx : peekI T L t W with
  | none =>
    rw [hx] at hP
    refine (next_none _ t W w hP).mono ?_
    rintro e w' ⟨rfl, o⟩
    exact ⟨rfl, h.only0 o, o.mono (by simp)⟩
  | some x =>
    rw [hx] at hP
    unfold peekI at hx
    by_cases c : inT T t
    · rw [if_pos c] at hx
      obtain ⟨k, rfl⟩ : ∃ k : Nat, t = k := ⟨t.toNat, by have := c.1; omega⟩
      rw [Int.toNat_natCast] at hx
      obtain ⟨n, hn, rfl⟩ := Option.map_eq_some_iff.1 hx
      obtain ⟨hn2, hl⟩ := nextN_some hn
      obtain ⟨_, n1, _⟩ := has_lt h.inv hl.1
      have htT : k < T := by have := c.2; omega
      simp only [sigV, Int.toNat_natCast] at hP ⊢
      by_cases h16 : n < 16
      · exact next_low h k n _ W htT n1 h16 hl.1 hP
      · by_cases hq : (queueOf L k n).tail = []
        · exact next_last h k n _ W htT n1 (by omega) hn2 hl.1 hq hP
        · exact next_more h k n _ W htT n1 (by omega) hn2 hl.1 hq hP
    · rw [if_neg c] at hx
      cases hx
end Go.Proofs.Ytnmlcijkggfhmaa
