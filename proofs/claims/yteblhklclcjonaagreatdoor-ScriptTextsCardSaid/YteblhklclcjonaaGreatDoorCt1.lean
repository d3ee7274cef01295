/- Code: a builder is written. No condition but its size. -/
import Derived.Test.YteblhklclcjonaaGreatDoorShelf
import Derived.Test.YteblhklclcjonaaGreatDoorCd6
import Derived.Shelf.Strings.OnBuilder
namespace Go.Proofs.YteblhklclcjonaaGreatDoor
open Go.RowKit Go.Lib
set_option linter.unusedVariables false
set_option linter.all false
set_option maxRecDepth 20000

theorem infoB : (Tryz.prog.info? 88).map (·.size) = some 2 := by kernel_rfl
theorem liesB : liesAt Tryz.prog Tryz.prog.depth 88 (2 / Tryz.prog.cellsOf 88) 0 88 1 = true := by kernel_rfl
theorem info5 : (Tryz.prog.info? 5).map (fun i => (i.zero, i.size, i.bytes)) = some (some (.int .u8 0), 1, 1) := by kernel_rfl
theorem copycheck_any (b : Nat) (p : Option Addr) (hp : p = none ∨ p = some ⟨b, 0, none⟩) (w : World) (h0 : w.cell? ⟨b, 0, none⟩ = some (.pointer p)) (hsh : w.shape? b = some (88, 2)) (hfz : w.frozen? ⟨b, 0, none⟩ = false) :
    Calls Tryz.prog 68 #[.pointer (some ⟨b, 0, none⟩)] w fun e w' => e = .returned (.tuple #[]) ∧ (w' = w ∧ p = some ⟨b, 0, none⟩ ∨ w' = w.setCell ⟨b, 0, none⟩ (.pointer (some ⟨b, 0, none⟩))) := by
  obtain ⟨j, hj, hjs⟩ := Option.map_eq_some_iff.1 infoB
  rcases hp with rfl | rfl
  · have c1 := run_to_unsafe w ⟨b, 0, none⟩ Tryz.underlying86 Tryz.underlying149 hj (by rw [hjs]; decide) hsh (Nat.zero_lt_succ 1)
    have c2 := run_from_unsafe w ⟨b, 0, none⟩ Tryz.underlying149 Tryz.underlying86 hj hsh liesB
    have c3 : (callFunc 95 #[.pointer (some ⟨b, 0, none⟩)]).run Tryz.prog w = .ok (.value (.pointer (some ⟨b, 0, none⟩))) w := by
      rw [run_callFunc_extern Tryz.func95 (by kernel_rfl) (by kernel_rfl) (by kernel_rfl) (e := Extern.AbiNoEscape.same) (by kernel_rfl), run_noEscape]
      rfl
    go_enter Tryz.func68, Tryz.ntmps68
    go_wp2_with fail
    go_end0
    exact ⟨rfl, .inr rfl⟩
  · have c1 := run_neq_ptr_same w ⟨b, 0, none⟩ Tryz.underlying86 hj
    go_enter Tryz.func68, Tryz.ntmps68
    go_wp2_with fail
    go_end0
    exact ⟨rfl, .inl ⟨rfl, trivial⟩⟩
/-- A builder at b, base B, that holds bytes. -/
def Bd (w : World) (B b : Nat) (l : List UInt8) : Prop := IsBuilder 88 5 B b (Lib.byteCells l) w
theorem Bd.only0 {w w' : World} {B b : Nat} {l : List UInt8} (h : Bd w B b l) (o : Only [] w w') : Bd w' B b l := by
  rcases h with ⟨hB, v, hb, hown, hne⟩ | ⟨hB, v, hb, hown, hne⟩
  · exact .inl ⟨hB, v, Blk.only (g := b) hb o (by simp), own_only hown o (by simp), hne⟩
  · exact .inr ⟨hB, v, Blk.only (g := b) hb o (by simp), own_only hown o (by simp), hne⟩
theorem Bd.new (w : World) (B : Nat) (hB : B ≤ w.heap.size) : Bd (w.alloc (.cells #[.pointer none, .slice none 0 0] 88)) B w.heap.size [] :=
  .inl ⟨hB, .slice none 0 0, Blk.new w 88 _, World.ownsRow_nil .., by simp [Value.ownBlock]⟩
theorem copycheck_b (B b : Nat) (bs : List Value) (w : World) (h : IsBuilder 88 5 B b bs w) : Calls Tryz.prog 68 #[.pointer (some ⟨b, 0, none⟩)] w fun e w' => e = .returned (.tuple #[]) ∧ BuilderAt 88 5 B b (.pointer (some ⟨b, 0, none⟩)) bs w' ∧ Below B w w' := by
  rcases h with h | h
  · refine (copycheck_any b none (.inl rfl) w h.cell0 h.shape h.frozen0).mono ?_
    rintro e w' ⟨rfl, ⟨_, hc⟩ | rfl⟩
    · cases hc
    · exact ⟨rfl, h.used _, (Below.refl B w).setCell (p := ⟨b, 0, none⟩) h.1 _⟩
  · refine (copycheck_any b _ (.inr rfl) w h.cell0 h.shape h.frozen0).mono ?_
    rintro e w' ⟨rfl, ⟨rfl, _⟩ | rfl⟩
    · exact ⟨rfl, h, Below.refl B _⟩
    · exact ⟨rfl, h.used _, (Below.refl B w).setCell (p := ⟨b, 0, none⟩) h.1 _⟩
set_option maxHeartbeats 2000000 in
theorem write_any (B b : Nat) (l : List UInt8) (s : ByteArray) (w : World) (h : Bd w B b l) (hlen : l.length + s.size ≤ 140737488355328) (hBw : B ≤ w.heap.size) :
    Calls Tryz.prog 41 #[.pointer (some ⟨b, 0, none⟩), .string s] w fun e w' => e = .returned (.tuple #[.int .i64 s.size, .nilIface]) ∧ Bd w' B b (l ++ s.data.toList) ∧ Below B w w' := by
  obtain ⟨i0, hi, hz0, hz1, hz2⟩ := info_parts info5
  have hl : (Lib.byteCells l).length = l.length := by simp [Lib.byteCells]
  go_enter Tryz.func41, Tryz.ntmps41
  go_wp2_with (go_at_call 68; refine (copycheck_b B b _ _ h).mono ?_)
  rintro e w1 ⟨rfl, h1, hb1⟩
  obtain ⟨hB, v, hbk, hown, hne⟩ := h1
  have c0 : w1.cell? ⟨b, 0, none⟩ = some (.pointer (some ⟨b, 0, none⟩)) := by rw [cell_of_heap hbk]; rfl
  have c1 : w1.cell? ⟨b, 1, none⟩ = some v := by rw [cell_of_heap hbk]; rfl
  go_wp2_with (at_builtin; refine wpList_append_own_string _ rfl _ _ 68 9 rfl B 5 i0 Tryz.underlying68 Tryz.underlying9 hi hz0 hz1 hz2 _ _ _ rfl hown s rfl ?c3 ?c4 ?c5 ?_)
  case c3 => unfold maxLen; omega
  case c4 => omega
  case c5 => have := hb1.size; omega
  intro v' w2 hown' hgrow _
  have hlt : b < w1.heap.size := Blk.lt (g := b) hbk
  have hb2 : w2.heap[b]? = some (.cells #[.pointer (some ⟨b, 0, none⟩), v] 88 (0, 0)) := by
    rw [hgrow.block b hlt (fun e => hne e.symm)]
    exact hbk
  have d0 : w2.cell? ⟨b, 0, none⟩ = some (.pointer (some ⟨b, 0, none⟩)) := by rw [cell_of_heap hb2]; rfl
  have d1 : w2.cell? ⟨b, 1, none⟩ = some v := by rw [cell_of_heap hb2]; rfl
  have f1 : w2.frozen? ⟨b, 1, none⟩ = false := frozen_of_heap hb2 1
  obtain ⟨ao, n', cap, rfl⟩ : ∃ ao n' cap, v' = .slice ao n' cap := by
    rcases hown'.2 with ⟨hv, _⟩ | ⟨g, cap, cur, hv, _⟩
    · exact ⟨_, _, _, hv⟩
    · exact ⟨_, _, _, hv⟩
  go_wp2_with fail
  go_ret2
  have he : Lib.byteCells l ++ strCells s = Lib.byteCells (l ++ s.data.toList) := by simp [Lib.byteCells, strCells]
  refine ⟨rfl, .inr ?_, ?_⟩
  · rw [← he]
    exact BuilderAt.put (T := 88) (e := 5) hB hb2 (bs' := Lib.byteCells l ++ strCells s) (by rw [show (Lib.byteCells l ++ strCells s).length = l.length + s.size by rw [List.length_append, strCells_length, hl]]; exact hown') (by decide)
  · exact (hb1.grown hgrow (by have := hb1.size; omega) (fun k hk => (hown.lt k hk).1)).setCell (p := ⟨b, 1, none⟩) hB _
theorem string_any (B b : Nat) (l : List UInt8) (w : World) (h : Bd w B b l) (hBw : B ≤ w.heap.size) : Calls Tryz.prog 43 #[.pointer (some ⟨b, 0, none⟩)] w fun e w' => e = .returned (.string (bs l)) ∧ Below B w w' :=
  Tryz.Builder_String_any B b l w h hBw
end Go.Proofs.YteblhklclcjonaaGreatDoor
