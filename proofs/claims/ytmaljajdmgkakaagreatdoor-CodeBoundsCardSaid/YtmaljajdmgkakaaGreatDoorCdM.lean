/- Code, the document's: cut. No condition. -/

import Derived.Test.YtmaljajdmgkakaaGreatDoorCd6
import Derived.WalkSpells
namespace Go.Proofs.YtmaljajdmgkakaaGreatDoor
open Go.RowKit
set_option linter.unusedVariables false
set_option linter.all false
set_option maxRecDepth 20000

theorem cut_take (s : List UInt8) (q : Nat) (hq : q < s.length) (h : (32 : UInt8) ∉ s.take q) (hb : s[q]? = some 32) : cutAt 32 s = (s.take q, s.drop (q + 1), true) := by
  have e : s = s.take q ++ 32 :: s.drop (q + 1) := by
    obtain ⟨h1, h2⟩ := List.getElem?_eq_some_iff.1 hb
    conv => lhs; rw [← List.take_append_drop q s, List.drop_eq_getElem_cons hq, h2]
  conv => lhs; rw [e]
  exact cut_at 32 _ _ h
theorem bs_take (s : List UInt8) (q : Nat) : (bs s).extract 0 q = bs (s.take q) := by
  apply ByteArray.ext
  simp [bs, ByteArray.data_extract]
theorem bs_drop (s : List UInt8) (q : Nat) : (bs s).extract q (bs s).size = bs (s.drop q) := by
  apply ByteArray.ext
  rw [bs_size]
  simp [bs, ByteArray.data_extract]
  rw [List.take_of_length_le (by simp)]
end Go.Proofs.YtmaljajdmgkakaaGreatDoor
