/- Code: the walk of CodePrograms. Condition: Env; the program's cells. -/
import Derived.Test.YtmaljajdmgkakaaGreatDoorCt9a
import Derived.Test.YtmaljajdmgkakaaGreatDoorCt9b
import Derived.Test.YtmaljajdmgkakaaGreatDoorCt9c
import Derived.BigRegion
import Derived.Deep.RegionHeld3
namespace Go.Proofs.YtmaljajdmgkakaaGreatDoor
open Go.RowKit
set_option linter.unusedVariables false
set_option linter.all false
set_option maxRecDepth 20000
attribute [local go_sem ↓] app_hide

theorem programs_walk (A : Option Addr) (n c : Nat) (f : Nat → Ins) (pc : Int) (w : World) (hA : InsAt w A n f) (hn : n ≤ maxLen) (hi : ∀ k, k < n → -9223372036854775808 ≤ (f k).imm ∧ (f k).imm ≤ 9223372036854775807) (he : Env w) (hw4 : 4 ≤ w.heap.size) : Calls Tryz.prog 4 #[.slice A n c, .int .i64 pc] w fun e w' => e = .returned (.bool true) ∧ Only [] w w' := by
  have KN := hide (fun W (o : Only [] w W) => known_any W (he.only o) (by have := o.size; omega))
  by_cases h600 : 600 < n
  · have e0 : decide ((600 : Int) < (n : Int)) = true := decide_eq_true (by omega)
    have e1 : decide (600 < n) = true := decide_eq_true h600
    clear hA hn hi he hw4 h600
    go_enter Tryz.func4, Tryz.ntmps4
    go_wp2_with (go_at_call 13; (with_reducible refine (KN.out _ (Only.refl _ _)).mono ?_); rintro e w1 ⟨rfl, o⟩; have O2 := hide o; clear o)
    go_ret
    exact ⟨rfl, O2.out⟩
  cases hb : badP n f with
  | true =>
    by_cases hp : 0 ≤ pc ∧ pc < n
    · exact prog_bad0 A n c f pc w hA hn hi he hw4 h600 hb hp
    · by_cases hp2 : pc < 0
      · exact prog_bad1 A n c f pc w hA hn hi he hw4 h600 hb hp hp2
      · exact prog_bad2 A n c f pc w hA hn hi he hw4 h600 hb hp hp2
  | false =>
    by_cases hp : 0 ≤ pc ∧ pc < n
    · exact prog_good0 A n c f pc w hA hn hi he hw4 h600 hb hp
    · by_cases hp2 : pc < 0
      · exact prog_good1 A n c f pc w hA hn hi he hw4 h600 hb hp hp2
      · exact prog_good2 A n c f pc w hA hn hi he hw4 h600 hb hp hp2
end Go.Proofs.YtmaljajdmgkakaaGreatDoor
