/- Code, the document's: cut. No condition. -/

import Derived.Test.YteblhklclcjonaaGreatDoorCd6
import Derived.WalkSpells
namespace Go.Proofs.YteblhklclcjonaaGreatDoor
open Go.RowKit
set_option linter.unusedVariables false
set_option linter.all false
set_option maxRecDepth 20000

theorem cut_take (s : List UInt8) (q : Nat) (hq : q < s.length) (h : (32 : UInt8) ∉ s.take q) (hb : s[q]? = some 32) : cutAt 32 s = (s.take q, s.drop (q + 1), true) := by
  have e : s = s.take q ++ 32 :: s.drop (q + 1) := by
    obtain ⟨h1, h2⟩ := List.getElem?_eq_some_iff.1 hb
    conv => lhs; rw [← List.take_append_drop q s, List.drop_eq_getElem_cons hq, h2]
  conv => lhs; rw [e]
  exact cut_at 32 _ _ h
theorem bs_take (s : List UInt8) (q : Nat) : (bs s).extract 0 q = bs (s.take q) := by
  apply ByteArray.ext
  simp [bs, ByteArray.data_extract]
theorem bs_drop (s : List UInt8) (q : Nat) : (bs s).extract q (bs s).size = bs (s.drop q) := by
  apply ByteArray.ext
  rw [bs_size]
  simp [bs, ByteArray.data_extract]
  rw [List.take_of_length_le (by simp)]
set_option maxHeartbeats 4000000 in
theorem rcut_any (s : List UInt8) (hs : s.length ≤ 4000000) (w : World) : Calls Tryz.prog 35 #[.string (bs s)] w fun e w' => e = .returned (.tuple #[.string (bs (cutAt 32 s).1), .string (bs (cutAt 32 s).2.1)]) ∧ Only [] w w' := by
  have hz : (bs s).size = s.length := bs_size s
  go_enter Tryz.func35, Tryz.ntmps35
  go_wp2_with fail
  go_loopw [4] (fun vi wr => ∃ q : Nat, q ≤ s.length ∧ vi = .int .i64 q ∧ (32 : UInt8) ∉ s.take q ∧ w = wr) (fun vi _ => s.length - (intOf vi).toNat)
  case atStart => exact ⟨0, by omega, rfl, by simp, rfl⟩
  case round =>
    obtain ⟨q, hq, rfl, hn, hw⟩ := hrel
    obtain rfl := hw
    by_cases hq3 : q < s.length
    · have j0 : (q : Int) < s.length := by omega
      have j1 : (0 : Int) ≤ (q : Int) := by omega
      have d0 : decide (q < (bs s).size) = true := decide_eq_true (by omega)
      have d1 : q < (bs s).size := by omega
      have hg : (bs s)[q]'d1 = s[q]'hq3 := by simp [bs, ByteArray.getElem_eq_getElem_data]
      obtain ⟨c, hc⟩ : ∃ c, (bs s)[q]'d1 = c := ⟨_, rfl⟩
      have hcs : s[q]? = some c := by rw [List.getElem?_eq_getElem hq3, ← hg, hc]
      have HN := hide hn
      clear hn
      by_cases hb : c = 32
      · have e0 : ((((bs s)[q]'d1).toNat : Int) == 32) = true := by rw [hc, hb]; rfl
        have HE := hide (cut_take s q hq3 HN.out (by rw [hcs, hb]))
        clear hg hc hcs hb hz
        go_wp2_with fail
        go_region
        go_wp2_with fail
        go_ret2
        rw [HE.out]
        refine ⟨?_, (Only.refl [] w).drew⟩
        rw [bs_take, bs_drop]
        rfl
      · have hbt : ¬ c.toNat = 32 := fun h => hb (UInt8.toNat.inj h)
        have e0 : ((((bs s)[q]'d1).toNat : Int) == 32) = false := by rw [hc]; simp; omega
        have HT := hide (show (32 : UInt8) ∉ s.take (q + 1) by
          rw [List.take_add_one, hcs]
          simp only [Option.toList, List.mem_append, List.mem_singleton]
          exact fun h => h.elim HN.out (fun h => hb h.symm))
        clear hg hc hcs hb hz hbt
        go_wp2_with fail
        go_roundw
        case rel => exact ⟨q + 1, by omega, by go_num, HT.out, (by first | rfl | trivial)⟩
        case measure => simp [intOf]; omega
    · have d0 : decide (q < (bs s).size) = false := decide_eq_false (by omega)
      have HE := hide (cut_none 32 s (by rw [List.take_of_length_le (by omega)] at hn; exact hn))
      clear hn
      go_wp2_with fail
      go_ret2
      rw [HE.out]
      exact ⟨rfl, Only.refl _ _⟩
end Go.Proofs.YteblhklclcjonaaGreatDoor
