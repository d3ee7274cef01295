/- Ready lists: the walk of New. No condition. -/
import Derived.Test.YtnndengdlokmbaaRd12
namespace Go.Proofs.Ytnndengdlokmbaa
open Go.RowKit
set_option linter.unusedVariables false
set_option linter.all false
set_option maxRecDepth 20000

def sN (k : Nat) : RS := ⟨fun i => if i < k then -1 else 0, fun i => if i < k then -1 else 0, fun _ => 0, fun _ => 0⟩
theorem sN_head (k : Nat) : upd (sN k).head k (-1) = (sN (k + 1)).head := by
  funext i
  unfold upd sN
  simp only
  by_cases h : i = k
  · simp [h]
  · by_cases h' : i < k
    · simp [h, h', show i < k + 1 by omega]
    · simp [h, h', show ¬ i < k + 1 by omega]
theorem sN_tail (k : Nat) : upd (sN k).tail k (-1) = (sN (k + 1)).tail := sN_head k
theorem sN_next (k : Nat) : ({ ({ sN k with head := upd (sN k).head k (-1) } : RS) with tail := upd (sN k).tail k (-1) } : RS) = sN (k + 1) := by
  rw [sN_head, sN_tail]; rfl
theorem Rep.none : Rep (sN 32) (fun _ => 0) 0 (fun _ => []) := by
  refine ⟨fun p h1 h2 => ⟨?_, ?_, ?_, ?_⟩, fun p => List.nodup_nil, fun p t h => by simp at h, fun p p' t h => by simp at h, fun p t h => by simp at h, fun t _ _ => rfl, fun p t h => by simp at h, fun p => by simp⟩
  · simp [sN, atI, show p < 32 by omega]
  · simp [sN, lastI, show p < 32 by omega]
  · intro i t h; simp at h
  · intro i t h; simp at h
theorem Z53_get (i : Nat) (hi : 2 ≤ i) (h : i < 115) : Z53[i]? = some (.int .i64 0) := by
  unfold Z53
  rw [Array.getElem?_append_right (by simpa using hi), Array.getElem?_replicate]
  exact if_pos (show i - 2 < 113 by omega)
theorem Cs_new : Cs (Z53.setIfInBounds 0 (.bool true)) (sN 0) (fun _ => 0) 0 0 := by
  have hz := Z53_size
  refine ⟨by simp [hz], set_eq (by omega), (set_ne (by omega)).trans rfl, fun i hi => ?_, fun i hi => ?_, fun i hi => ?_, fun i hi => ?_, fun i hi => ?_, (set_ne (by omega)).trans (Z53_get _ (by omega) (by omega))⟩ <;>
  · refine (set_ne (by omega)).trans ((Z53_get _ (by omega) (by omega)).trans ?_)
    simp [sN]
theorem new_any (w : World) : Calls Try.prog 33 #[] w fun e w' => e = .returned (ptr w.heap.size) ∧ RL w' w.heap.size (fun _ => []) 0 ∧ Only [] w w' := by
  have hZ := zero53
  go_enter Try.func33, Try.ntmps33
  go_wp2_with fail
  clear hZ
  go_loopw [2, 5] (fun v i wr => ∃ (k : Nat) (cs : Array Value), k ≤ 32 ∧ i = .int .i64 k ∧ Only [] w wr ∧ Blk wr w.heap.size 78 cs ∧ Cs cs (sN k) (fun _ => 0) 0 0) (fun _ i _ => 32 - (intOf i).toNat)
  case atStart => exact ⟨0, _, Nat.zero_le _, rfl, (Only.refl [] w).alloc _, Blk.new w 78 _, Cs_new⟩
  case round =>
    obtain ⟨k, cs, hk, rfl, hO, hB, hC⟩ := hrel
    by_cases hlt : k < 32
    · have i1 : (k : Int) < 32 := by omega
      have i0 : (0 : Int) ≤ (k : Int) := by omega
      have f1 := hB.frozen (2 + k)
      have f2 := hB.frozen (34 + k)
      have c1 := (hB.cell (2 + k)).trans (hC.head k hlt)
      have c2 := (hB.cell (34 + k)).trans (hC.tail k hlt)
      have hX := hide ((hB.set_ (2 + k) (.int .i64 (-1))).set_ (34 + k) (.int .i64 (-1)))
      have hY := hide ((hC.setHead k hlt (-1)).setTail k hlt (-1))
      have hO' := hide hO
      clear hB hC hO
      go_wp2_with fail
      go_region
      go_wp2_with fail
      go_roundw
      case rel => exact ⟨k + 1, _, by omega, by go_num, ((hO'.out.setCell (p := ⟨w.heap.size, 2 + k, none⟩) (.inr (Nat.le_refl _)) _).setCell (p := ⟨w.heap.size, 34 + k, none⟩) (.inr (Nat.le_refl _)) _).drew, hX.out.drew, (sN_next k) ▸ hY.out⟩
      case measure => simp [intOf]; omega
    · obtain rfl : k = 32 := by omega
      go_wp2_with fail
      go_ret
      exact ⟨rfl, ⟨_, _, _, ⟨_, hB, hC⟩, Rep.none⟩, hO⟩
end Go.Proofs.Ytnndengdlokmbaa
