/- Script: strconv.ParseUint to the base 16, of at most two bytes: the public one. Condition: Env. -/
import Derived.Test.YteblhklclcjonaaGreatDoorSu1
namespace Go.Proofs.YteblhklclcjonaaGreatDoor
open Go.RowKit
set_option linter.unusedVariables false
set_option linter.all false
set_option maxRecDepth 20000

set_option maxHeartbeats 1000000 in
theorem pu_any (s : List UInt8) (hl : s.length ≤ 2) (w : World) (he : Env w) : Calls Tryz.prog 106 #[.string (bs s), .int .i64 16, .int .i64 8] w fun e w' => (∃ x, e = .returned (.tuple #[.int .u64 (hexP s : Nat), x])) ∧ Only [] w w' := by
  have IP := hide (ipu_any s hl w)
  have TE := hide (show ∀ W, Only [] w W → Calls Tryz.prog 62 #[.string ⟨#[80, 97, 114, 115, 101, 85, 105, 110, 116]⟩, .string (bs s), .int .i64 16, .int .i64 8, .iface 139 (.int .i64 2)] W fun e w' => (∃ x, e = .returned x) ∧ Only [] W w' from fun W o => by
    obtain ⟨te, p, hp⟩ := (he.only o).es
    exact (Tryz.strconv_toError_syntax ⟨#[80, 97, 114, 115, 101, 85, 105, 110, 116]⟩ (bs s) 16 8 (.iface te p) W (by rw [bs_size]; omega) hp (.inr ⟨te, p, rfl⟩)).mono fun e w' ⟨N, h, _, _, hb⟩ => ⟨⟨_, h⟩, Only.ofBelow hb⟩)
  clear he
  unfold puV at IP
  obtain ⟨v, hv⟩ : ∃ v, hexP s = v := ⟨_, rfl⟩
  rw [hv] at IP ⊢
  clear hv
  go_enter Tryz.func106, Tryz.ntmps106
  go_wp2_with (go_at_call 115; (with_reducible refine IP.out.mono ?_); rintro e w1 ⟨⟨er, rfl, her⟩, o⟩; have O1 := hide o; clear o; rcases her with rfl | rfl)
  · go_ret2
    exact ⟨⟨_, rfl⟩, O1.out⟩
  · go_wp2_with (go_at_call 62; (with_reducible refine (TE.out _ O1.out).mono ?_); rintro e w2 ⟨⟨x, rfl⟩, o⟩; have O2 := hide (O1.out.trans0 o); clear o)
    go_ret2
    exact ⟨⟨_, rfl⟩, O2.out⟩
end Go.Proofs.YteblhklclcjonaaGreatDoor
