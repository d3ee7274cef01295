/- Code: the walk of CodeBack. Condition: Env; the programs' cells. -/
import Derived.Test.YtmaljajdmgkakaaGreatDoorCtb0
import Derived.Test.YtmaljajdmgkakaaGreatDoorCtb1
import Derived.Test.YtmaljajdmgkakaaGreatDoorCtb2
import Derived.Test.YtmaljajdmgkakaaGreatDoorCtb3
import Derived.Test.YtmaljajdmgkakaaGreatDoorCtb4
namespace Go.Proofs.YtmaljajdmgkakaaGreatDoor
open Go.RowKit
set_option linter.unusedVariables false
set_option linter.all false
set_option maxRecDepth 20000
theorem back_walk (A : Option Addr) (n c : Nat) (f : Nat → Ins) (B : Option Addr) (m c' : Nat) (g : Nat → Ins) (t : ByteArray) (w : World) (hA : InsAt w A n f) (hn : n ≤ maxLen) (hi : ∀ k, k < n → -9223372036854775808 ≤ (f k).imm ∧ (f k).imm ≤ 9223372036854775807) (hB : InsAt w B m g) (hm : m ≤ maxLen) (hj : ∀ k, k < m → -9223372036854775808 ≤ (g k).imm ∧ (g k).imm ≤ 9223372036854775807) (he : Env w) (hw4 : 4 ≤ w.heap.size) :
    Calls Tryz.prog 5 #[.slice A n c, .slice B m c', .string t] w fun e w' => e = .returned (.bool true) ∧ Only [] w w' := by
  obtain ⟨s, rfl⟩ : ∃ s, t = bs s := ⟨t.data.toList, (bs_of t).symm⟩
  by_cases h20 : 20000 < s.length
  · exact back0 A n c f B m c' g s w hA hn hi hB hm hj he hw4 h20
  have h20 : s.length ≤ 20000 := by omega
  obtain ⟨p, nn, er, hr⟩ : ∃ p nn er, readR s = (p, nn, er) := ⟨_, _, _, rfl⟩
  by_cases h0 : er = 0
  · subst h0
    have hp := readR_inv hr
    cases hk : takeF s with
    | none => exact back3 A n c f B m c' g s w hA hn hi hB hm hj he hw4 h20 p nn hr hp.1 hp.2.1 hk
    | some q => exact back4 A n c f B m c' g s w hA hn hi hB hm hj he hw4 h20 p nn hr hp.1 hp.2.1 q hk (takeF_inv hk).1 (takeF_inv hk).2
  · have hb : (er == 0) = false := by simpa using h0
    cases hk : takeF s with
    | none => exact back1 A n c f B m c' g s w hA hn hi hB hm hj he hw4 h20 p nn er hr hb hk
    | some q => exact back2 A n c f B m c' g s w hA hn hi hB hm hj he hw4 h20 p nn er hr hb q hk (takeF_inv hk).1 (takeF_inv hk).2
end Go.Proofs.YtmaljajdmgkakaaGreatDoor
