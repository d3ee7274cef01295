/- Script: a builder is written a byte. No condition but its size. -/
import Derived.Test.YteblhklclcjonaaGreatDoorCt1
import Derived.Test.YteblhklclcjonaaGreatDoorSc5
namespace Go.Proofs.YteblhklclcjonaaGreatDoor
open Go.RowKit Go.Lib
set_option linter.unusedVariables false
set_option linter.all false
set_option maxRecDepth 20000
attribute [local go_sem ↓] app_hide

/-- What a builder's writing leaves: all blocks but its own and its bytes'. -/
def KeepN (b : Nat) (w w' : World) : Prop := ∀ k, k < w.heap.size → k ≠ b → (∀ cs, w.heap[k]? ≠ some (.cells cs 5 (0, 0))) → w'.heap[k]? = w.heap[k]?
theorem KeepN.refl (b : Nat) (w : World) : KeepN b w w := fun _ _ _ _ => rfl
theorem KeepN.trans {b : Nat} {w1 w2 w3 : World} (h : KeepN b w1 w2) (hs : w1.heap.size ≤ w2.heap.size) (k : KeepN b w2 w3) : KeepN b w1 w3 := fun i hi hb hn => by
  have h1 := h i hi hb hn
  exact (k i (by omega) hb (fun cs => by rw [h1]; exact hn cs)).trans h1
theorem KeepN.set {b : Nat} (w : World) (j : Nat) (v : Value) : KeepN b w (w.setCell ⟨b, j, none⟩ v) := fun k hk hb _ => Below.heap_setCell w ⟨b, j, none⟩ v k hb
theorem KeepN.only0 {b : Nat} {w w' : World} (o : Only [] w w') : KeepN b w w' := fun k hk _ _ => o.block k hk (by simp)
theorem KeepN.only {b : Nat} {w w' : World} {S : List Nat} (o : Only S w w') (hS : ∀ k ∈ S, ∃ cs, Blk w k 5 cs) : KeepN b w w' := fun k hk _ hn => o.block k hk (fun hm => by
  obtain ⟨cs, hc⟩ := hS k hm
  exact hn cs hc)
theorem own_ty5 {w : World} {B size n c : Nat} {e : TypeId} {A : Option Addr} {xs : List Value} (h : w.ownsRow B e size (.slice A n c) n xs) : ∀ x ∈ blkOf A, ∃ cs, Blk w x e cs := by
  intro x hx
  rcases h.2 with ⟨hv, _⟩ | ⟨g, cap, cur, hv, _, hg, _⟩
  · simp only [Value.slice.injEq] at hv
    rw [hv.1] at hx
    simp [blkOf] at hx
  · simp only [Value.slice.injEq] at hv
    rw [hv.1] at hx
    simp [blkOf] at hx
    subst hx
    exact ⟨cur, hg⟩
theorem copycheck_k (B b : Nat) (bs : List Value) (w : World) (h : IsBuilder 88 5 B b bs w) : Calls Tryz.prog 68 #[.pointer (some ⟨b, 0, none⟩)] w fun e w' => e = .returned (.tuple #[]) ∧ BuilderAt 88 5 B b (.pointer (some ⟨b, 0, none⟩)) bs w' ∧ Below B w w' ∧ KeepN b w w' := by
  rcases h with h | h
  · refine (copycheck_any b none (.inl rfl) w h.cell0 h.shape h.frozen0).mono ?_
    rintro e w' ⟨rfl, ⟨_, hc⟩ | rfl⟩
    · cases hc
    · exact ⟨rfl, h.used _, (Below.refl B w).setCell (p := ⟨b, 0, none⟩) h.1 _, KeepN.set w 0 _⟩
  · refine (copycheck_any b _ (.inr rfl) w h.cell0 h.shape h.frozen0).mono ?_
    rintro e w' ⟨rfl, ⟨rfl, _⟩ | rfl⟩
    · exact ⟨rfl, h, Below.refl B _, KeepN.refl b _⟩
    · exact ⟨rfl, h.used _, (Below.refl B w).setCell (p := ⟨b, 0, none⟩) h.1 _, KeepN.set w 0 _⟩
set_option maxHeartbeats 2000000 in
theorem writes_any (B b : Nat) (l : List UInt8) (s : ByteArray) (w : World) (h : Bd w B b l) (hlen : l.length + s.size ≤ 140737488355328) (hBw : B ≤ w.heap.size) :
    Calls Tryz.prog 41 #[.pointer (some ⟨b, 0, none⟩), .string s] w fun e w' => e = .returned (.tuple #[.int .i64 s.size, .nilIface]) ∧ Bd w' B b (l ++ s.data.toList) ∧ Below B w w' ∧ KeepN b w w' := by
  obtain ⟨i0, hi, hz0, hz1, hz2⟩ := info_parts info5
  have hl : (Lib.byteCells l).length = l.length := by simp [Lib.byteCells]
  go_enter Tryz.func41, Tryz.ntmps41
  go_wp2_with (go_at_call 68; refine (copycheck_k B b _ _ h).mono ?_)
  rintro e w1 ⟨rfl, h1, hb1, kn1⟩
  obtain ⟨hB, v, hbk, hown, hne⟩ := h1
  have c0 : w1.cell? ⟨b, 0, none⟩ = some (.pointer (some ⟨b, 0, none⟩)) := by rw [cell_of_heap hbk]; rfl
  have c1 : w1.cell? ⟨b, 1, none⟩ = some v := by rw [cell_of_heap hbk]; rfl
  obtain ⟨A, cap, hvA⟩ : ∃ A cap, v = .slice A l.length cap := by
    rcases hown.2 with ⟨hv, h0⟩ | ⟨g, cap, cur, hv, _⟩
    · rw [hl] at h0; exact ⟨none, 0, by rw [hv, h0]⟩
    · exact ⟨_, _, by rw [hv, hl]⟩
  have hty : ∀ k, v.ownBlock = some k → ∃ cs, Blk w1 k 5 cs := fun k hk => by
    rw [hvA, hl] at hown
    rw [hvA] at hk
    refine own_ty5 hown k ?_
    cases A with
    | none => simp [Value.ownBlock] at hk
    | some a => simp [Value.ownBlock] at hk; simp [blkOf, hk]
  have HTY := hide hty
  clear hvA hty
  go_wp2_with (at_builtin; refine wpList_append_own_string _ rfl _ _ 68 9 rfl B 5 i0 Tryz.underlying68 Tryz.underlying9 hi hz0 hz1 hz2 _ _ _ rfl hown s rfl ?c3 ?c4 ?c5 ?_)
  case c3 => unfold maxLen; omega
  case c4 => omega
  case c5 => have := hb1.size; omega
  intro v' w2 hown' hgrow _
  have hlt : b < w1.heap.size := Blk.lt (g := b) hbk
  have hb2 : w2.heap[b]? = some (.cells #[.pointer (some ⟨b, 0, none⟩), v] 88 (0, 0)) := by
    rw [hgrow.block b hlt (fun e => hne e.symm)]
    exact hbk
  have d0 : w2.cell? ⟨b, 0, none⟩ = some (.pointer (some ⟨b, 0, none⟩)) := by rw [cell_of_heap hb2]; rfl
  have d1 : w2.cell? ⟨b, 1, none⟩ = some v := by rw [cell_of_heap hb2]; rfl
  have f1 : w2.frozen? ⟨b, 1, none⟩ = false := frozen_of_heap hb2 1
  have KN := hide ((kn1.trans hb1.size (show KeepN b w1 w2 from fun k hk hkb hn => hgrow.block k hk (fun e => by obtain ⟨cs, hc⟩ := HTY.out k e.symm; exact hn cs hc))))
  have hsw := hgrow.size
  obtain ⟨ao, n', cap', rfl⟩ : ∃ ao n' cap, v' = .slice ao n' cap := by
    rcases hown'.2 with ⟨hv, _⟩ | ⟨g, cap, cur, hv, _⟩
    · exact ⟨_, _, _, hv⟩
    · exact ⟨_, _, _, hv⟩
  go_wp2_with fail
  go_ret2
  have he : Lib.byteCells l ++ strCells s = Lib.byteCells (l ++ s.data.toList) := by simp [Lib.byteCells, strCells]
  refine ⟨rfl, .inr ?_, ?_, ?_⟩
  · rw [← he]
    exact BuilderAt.put (T := 88) (e := 5) hB hb2 (bs' := Lib.byteCells l ++ strCells s) (by rw [show (Lib.byteCells l ++ strCells s).length = l.length + s.size by rw [List.length_append, strCells_length, hl]]; exact hown') (by decide)
  · exact (hb1.grown hgrow (by have := hb1.size; omega) (fun k hk => (hown.lt k hk).1)).setCell (p := ⟨b, 1, none⟩) hB _
  · exact KN.out.trans (by have := hb1.size; omega) (KeepN.set w2 1 _)
set_option maxHeartbeats 2000000 in
theorem write1_any (B b : Nat) (l : List UInt8) (c : UInt8) (w : World) (h : Bd w B b l) (hlen : l.length ≤ 10000000) (hBw : B ≤ w.heap.size) :
    Calls Tryz.prog 71 #[.pointer (some ⟨b, 0, none⟩), .int .u8 (c.toNat : Int)] w fun e w' => e = .returned .nilIface ∧ Bd w' B b (l ++ [c]) ∧ Below B w w' ∧ KeepN b w w' := by
  obtain ⟨i0, hi, hz0, hz1, hz2⟩ := info_parts info5
  have hl : (Lib.byteCells l).length = l.length := by simp [Lib.byteCells]
  go_enter Tryz.func71, Tryz.ntmps71
  go_wp2_with (go_at_call 68; refine (copycheck_k B b _ _ h).mono ?_)
  rintro e w1 ⟨rfl, h1, hb1, kn1⟩
  obtain ⟨hB, v, hbk, hown, hne⟩ := h1
  obtain ⟨A, cap, rfl⟩ : ∃ A cap, v = .slice A l.length cap := by
    rcases hown.2 with ⟨hv, h0⟩ | ⟨g, cap, cur, hv, _⟩
    · rw [hl] at h0; exact ⟨none, 0, by rw [hv, h0]⟩
    · exact ⟨_, _, by rw [hv, hl]⟩
  rw [hl] at hown
  have c0 : w1.cell? ⟨b, 0, none⟩ = some (.pointer (some ⟨b, 0, none⟩)) := by rw [cell_of_heap hbk]; rfl
  have c1 : w1.cell? ⟨b, 1, none⟩ = some (.slice A l.length cap) := by rw [cell_of_heap hbk]; rfl
  have hs1 := hb1.size
  obtain ⟨g', cap', w2, hrun, hown', ho, hgg⟩ := append_at (P := Tryz.prog) (w1.alloc (.cells #[.int .u8 (c.toNat : Int)] 5)) B 68 68 5 i0 (.int .u8 0) 1 1 Tryz.underlying68 hi hz0 hz1 hz2 rfl (by omega) A l.length cap (Lib.byteCells l) (own_only' hown ((Only.refl [] w1).alloc _) (by simp))
    ⟨w1.heap.size, 0, none⟩ 1 1 [.int .u8 (c.toNat : Int)] rfl (fun j u hj => by
      have := (Blk.new w1 5 #[.int .u8 (c.toNat : Int)]).cell j
      rw [add_mk, Nat.zero_add, this]
      rw [← Array.getElem?_toList]
      exact hj) (by intro u hu; simp at hu; subst hu; rfl) (.inl (by omega)) (by unfold maxLen; omega) (by omega) (by simp; omega)
  rw [app_hide] at hrun
  have hge := own_ge hown
  have hbA : b ∉ blkOf A := fun hm => by
    cases A with
    | none => simp [blkOf] at hm
    | some a => simp [blkOf] at hm; simp [Value.ownBlock] at hne; exact hne hm.symm
  have hb2 := Blk.only (g := b) (t := 88) (Blk.alloc (g := b) (t := 88) hbk (.cells #[.int .u8 (c.toNat : Int)] 5)) ho hbA
  have d0 : w2.cell? ⟨b, 0, none⟩ = some (.pointer (some ⟨b, 0, none⟩)) := by rw [cell_of_heap hb2]; rfl
  have d1 : w2.cell? ⟨b, 1, none⟩ = some (.slice A l.length cap) := by rw [cell_of_heap hb2]; rfl
  have f1 : w2.frozen? ⟨b, 1, none⟩ = false := frozen_of_heap hb2 1
  have OO := ((Only.refl (blkOf A) w1).alloc (.cells #[.int .u8 (c.toNat : Int)] 5)).trans' ho
  have KN := hide (kn1.trans hs1 (KeepN.only OO (own_ty5 hown)))
  have hsO := OO.size
  go_wp2_with fail
  go_ret
  have he : Lib.byteCells l ++ [.int .u8 (c.toNat : Int)] = Lib.byteCells (l ++ [c]) := by simp [Lib.byteCells]
  refine ⟨rfl, .inr ?_, ?_, KN.out.trans (by omega) (KeepN.set w2 1 _)⟩
  · rw [← he]
    have hL : (Lib.byteCells l ++ [Value.int .u8 (c.toNat : Int)]).length = l.length + 1 := by rw [List.length_append, hl]; rfl
    exact BuilderAt.put (T := 88) (e := 5) hB hb2 (bs' := Lib.byteCells l ++ [.int .u8 (c.toNat : Int)]) (by rw [hL]; exact hown') (by decide)
  · refine Below.setCell (p := ⟨b, 1, none⟩) ?_ hB _
    refine hb1.trans ⟨OO.os, OO.tape, OO.output, OO.size, fun k hk => OO.block k (by omega) (fun hm => by have := (hge k hm).1; omega)⟩
end Go.Proofs.YteblhklclcjonaaGreatDoor
