/- Code: the bytes of a text. No condition. -/
import Derived.Test.YtmaljajdmgkakaaGreatDoorCtp
import Derived.Laws.IdiomStrings
namespace Go.Proofs.YtmaljajdmgkakaaGreatDoor
open Go.RowKit
set_option linter.unusedVariables false
set_option linter.all false
set_option maxRecDepth 20000
theorem bytes_of (w : World) (s : List UInt8) : ∃ (c : Nat) (w' : World), (convert 9 33 (.string (bs s))).run Tryz.prog w = .ok (.slice (some ⟨w.heap.size, 0, none⟩) s.length c) w' ∧ Only [] w w' ∧ Src w' (some ⟨w.heap.size, 0, none⟩) s := by
  have h := Go.run_bytes_of_string (P := Tryz.prog) w 9 33 5 (bs s) Tryz.underlying9 Tryz.underlying33 Tryz.underlying5
  rw [bs_size] at h
  refine ⟨_, _, h, ((Only.refl [] w).drew).alloc _, fun hp => ⟨_, rfl, fun j u hj => ?_⟩⟩
  rw [add_mk, Nat.zero_add]
  have hb := heap_alloc_new w.drew (.cells (Go.bytesRow (bs s) (Go.grownCap w s.length 0 5)) 5 ((Go.bytesRow (bs s) (Go.grownCap w s.length 0 5)).size, (Go.bytesRow (bs s) (Go.grownCap w s.length 0 5)).size + 1))
  have hc := cell_of_row _ _ j _ _ _ hb
  refine hc.trans ?_
  have hl : j < s.length := by
    have := (List.getElem?_eq_some_iff.1 hj).1
    simpa [U8s] using this
  unfold Go.bytesRow
  rw [Array.getElem?_append_left (by simp [bs]; exact hl)]
  simp only [U8s, List.getElem?_map] at hj
  simp [bs, hl] at hj ⊢
  simpa [U8] using hj
end Go.Proofs.YtmaljajdmgkakaaGreatDoor
