/- Code: made slices; texts and bytes at their bounds. No condition. -/
import Derived.Test.YtmaljajdmgkakaaGreatDoorCt8
namespace Go.Proofs.YtmaljajdmgkakaaGreatDoor
open Go.RowKit
set_option linter.unusedVariables false
set_option linter.all false
set_option maxRecDepth 20000

/-- The instruction of which there are 256. -/
def iS : Ins := ⟨1, 7, 0, 0, -9223372036854775808⟩
def LQ (q : Nat) : List Ins := List.replicate q iS ++ List.replicate (256 - q) noI
theorem LQ_len {q : Nat} (h : q ≤ 256) : (LQ q).length = 256 := by simp [LQ]; omega
theorem GI_cat (a b : List Ins) : GI (a ++ b) = GI a ++ GI b := by simp [GI]
theorem set_app (l k : List Value) (r : Nat) (x : Value) : (l ++ k).set (l.length + r) x = l ++ k.set r x := by
  rw [List.set_append_right _ _ (by omega)]
  simp
theorem GI_set (a b : List Ins) (i j : Ins) : ((((((GI (a ++ i :: b)).toArray.setIfInBounds (a.length * 5 + 0) (.int .i64 j.op)).setIfInBounds (a.length * 5 + 1) (.int .i64 j.d)).setIfInBounds (a.length * 5 + 2) (.int .i64 j.a)).setIfInBounds (a.length * 5 + 3) (.int .i64 j.b)).setIfInBounds (a.length * 5 + 4) (.int .i64 j.imm)) = (GI (a ++ j :: b)).toArray := by
  have e : ∀ x : Ins, GI (a ++ x :: b) = GI a ++ (.int .i64 x.op :: .int .i64 x.d :: .int .i64 x.a :: .int .i64 x.b :: .int .i64 x.imm :: GI b) := fun x => by simp [GI, insV]
  have hl := GI_len a
  rw [e i, e j, ← hl]
  simp only [List.setIfInBounds_toArray, set_app]
  rfl
theorem made_zero (n : Nat) : madeCells z5 (n * 5) = (GI (List.replicate n noI)).toArray := by
  apply Array.ext
  · rw [size_madeCells]; simp [GI_len]
  · intro j h1 h2
    rw [size_madeCells] at h1
    have hr : (GI (List.replicate n noI))[j]? = some (.int .i64 0) := by
      obtain ⟨k, q, hk, hq, rfl⟩ : ∃ k q, k < n ∧ q < 5 ∧ j = k * 5 + q := ⟨j / 5, j % 5, by omega, by omega, by omega⟩
      rw [GI_get _ k q (by simp; exact hk) hq]
      have hf : fOf (List.replicate n noI) k = noI := by
        unfold fOf
        rw [List.getD_eq_getElem?_getD, List.getElem?_replicate, if_pos hk]
        rfl
      rw [hf]
      rcases (by omega : q = 0 ∨ q = 1 ∨ q = 2 ∨ q = 3 ∨ q = 4) with h | h | h | h | h
      all_goals (subst h; rfl)
    have hl : (madeCells z5 (n * 5))[j]? = some (.int .i64 0) := by
      unfold madeCells
      rw [Array.getElem?_map, Array.getElem?_range, if_pos h1]
      simp only [Option.map_some]
      have h5 : j % z5.size < 5 := Nat.mod_lt _ (by decide)
      obtain ⟨q, hq⟩ : ∃ q, j % z5.size = q := ⟨_, rfl⟩
      rw [hq] at h5 ⊢
      rcases (by omega : q = 0 ∨ q = 1 ∨ q = 2 ∨ q = 3 ∨ q = 4) with h | h | h | h | h
      all_goals (subst h; rfl)
    rw [Array.getElem?_eq_getElem (by rw [size_madeCells]; exact h1)] at hl
    have h3 : (GI (List.replicate n noI)).toArray[j]? = some (.int .i64 0) := by rw [List.getElem?_toArray]; exact hr
    rw [Array.getElem?_eq_getElem h2] at h3
    exact (Option.some.inj hl).trans (Option.some.inj h3).symm
theorem LQ_split {q : Nat} (h : q < 256) : LQ q = List.replicate q iS ++ noI :: List.replicate (255 - q) noI := by
  unfold LQ
  rw [show 256 - q = (255 - q) + 1 by omega, List.replicate_succ]
theorem LQ_next {q : Nat} (h : q < 256) : LQ (q + 1) = List.replicate q iS ++ iS :: List.replicate (255 - q) noI := by
  unfold LQ
  rw [show 256 - (q + 1) = 255 - q by omega, List.replicate_succ', List.append_assoc]
  rfl
theorem LQ_get {q : Nat} (h : q < 256) : fOf (LQ q) q = noI := by
  unfold fOf
  rw [LQ_split h, List.getD_eq_getElem?_getD, List.getElem?_append_right (by simp)]
  simp
theorem made_ins (W : World) : (Instr.makeSlice 22 (.int .i64 256) (.int .i64 256)).run Tryz.prog W = .ok (.slice (some ⟨W.heap.size, 0, none⟩) 256 256) (W.alloc (.cells (GI (LQ 0)).toArray 25)) := by
  obtain ⟨i0, hi, hz0, hz1, hz2⟩ := info_parts info24b
  have h := run_make (P := Tryz.prog) W 22 25 i0 (.agg z5) Tryz.underlying22 hi hz0 .i64 .i64 256 256 (by omega) (by omega) (by rw [hz2]; omega) (by omega)
  rw [hz1] at h
  have e : madeCells (Value.cells (.agg z5)) (Int.toNat 256 * 5) = (GI (LQ 0)).toArray := made_zero 256
  rw [e] at h
  exact h
theorem made_bytes (k : Nat) (hk : k ≤ 1000000) (W : World) : (Instr.makeSlice 33 (.int .i64 k) (.int .i64 k)).run Tryz.prog W = .ok (.slice (some ⟨W.heap.size, 0, none⟩) k k) (W.alloc (.cells (U8s (List.replicate k 0)).toArray 5)) := by
  obtain ⟨i0, hi, hz0, hz1, hz2⟩ := info_parts byte_info
  have h := run_make (P := Tryz.prog) W 33 5 i0 (.int .u8 0) Tryz.underlying33 hi hz0 .i64 .i64 k k (by omega) (by omega) (by rw [hz2]; omega) (by omega)
  rw [hz1] at h
  have e : madeCells (Value.cells (.int .u8 0)) (Int.toNat (k : Int) * 1) = (U8s (List.replicate k 0)).toArray := by
    apply Array.ext'
    rw [show Value.cells (.int .u8 0) = #[.int .u8 0] from rfl, toList_madeCells_one]
    simp [U8s, U8]
  rw [e] at h
  simpa using h
theorem src_new (w : World) (ds : List UInt8) : Src (w.alloc (.cells (U8s ds).toArray 5)) (some ⟨w.heap.size, 0, none⟩) ds := fun _ => ⟨_, rfl, fun j u hj => by
  rw [add_mk, Nat.zero_add, (Blk.new w 5 _).cell j, List.getElem?_toArray, hj]⟩
theorem goodS : Good 256 (fOf (LQ 256)) := by
  have hf : ∀ k, k < 256 → fOf (LQ 256) k = iS := fun k hk => by
    unfold fOf LQ
    rw [List.getD_eq_getElem?_getD, Nat.sub_self, List.replicate_zero, List.append_nil, List.getElem?_replicate, if_pos hk]
    rfl
  exact ⟨Nat.le_refl _, fun k hk => by rw [hf k hk]; decide +kernel, fun k hk => by rw [hf k hk]; decide⟩
theorem readL_more {cnt : Int} (rest : List UInt8) : ∀ (r q : List Ins) (fuel : Nat), (∀ i ∈ r, May cnt i) → q.length + r.length ≤ 256 → r.length ≤ fuel → readL cnt fuel q (txtL r ++ rest) = readL cnt (fuel - r.length) (q ++ r) rest
  | [], q, fuel, _, _, _ => by simp [txtL]
  | i :: r, q, fuel, h, hl, hf => by
    obtain ⟨g, rfl⟩ : ∃ g, fuel = g + 1 := ⟨fuel - 1, by simp at hf; omega⟩
    have hi := h i (by simp)
    have e : txtL (i :: r) ++ rest = lineB i ++ 10 :: (txtL r ++ rest) := by simp [txtL]
    have hc := cut_at 10 (lineB i) (txtL r ++ rest) (line_facts hi.may256 hi.i0 hi.i1).1
    rw [e, readL_go (i := i) (by simp) (by rw [hc]; exact parP_back hi.may256 hi.i0 hi.i1) ⟨by rw [hc], hi.may, by simp at hl; omega⟩, hc]
    simp only
    rw [readL_more rest r (q ++ [i]) g (fun j hj => h j (by simp [hj])) (by simp at hl ⊢; omega) (by simp at hf; omega)]
    simp
def endB : List UInt8 := [101, 110, 100, 10]
theorem parP_end : parP [101, 110, 100] = some ⟨0, 0, 0, 0, 0⟩ := by decide +kernel
theorem readR_over : readR (listB (fOf (LQ 256)) 256 ++ endB) = ([], 256, 4) := by
  have hg := goodS
  rw [listB_txt]
  obtain ⟨r, hr⟩ : ∃ r, pOf 256 (fOf (LQ 256)) = r := ⟨_, rfl⟩
  have hrl : r.length = 256 := by rw [← hr, pOf_len]
  have hall : ∀ (cnt : Int), ∀ i ∈ r, May cnt i := fun cnt i hi => by
    have h1 := hg.all
    rw [hr] at h1
    have h2 := h1 i hi
    have hiS : i = iS := by
      rw [← hr] at hi
      unfold pOf at hi
      obtain ⟨k, hk, rfl⟩ := List.mem_map.1 hi
      rw [List.mem_range] at hk
      unfold fOf LQ
      rw [List.getD_eq_getElem?_getD, Nat.sub_self, List.replicate_zero, List.append_nil, List.getElem?_replicate, if_pos hk]
      rfl
    refine ⟨?_, h2.may256, h2.i0, h2.i1⟩
    rw [hiS]
    have e : ∀ len, mayI iS len = true := fun len => by
      unfold mayI
      rw [show immOk (shp iS.op.toNat).imm iS.imm len = true from rfl]
      decide +kernel
    exact e cnt
  rw [hr]
  have hl := txtL_len (len := 0) r (hall 0)
  rw [hrl] at hl
  have hle : r.length ≤ (txtL r ++ endB).length := by
    have := count_txt (len := 0) r (hall 0)
    have h2 := List.count_le_length (a := (10 : UInt8)) (l := txtL r)
    rw [List.length_append]; omega
  have hst : ∀ cnt, readL cnt (txtL r ++ endB).length [] (txtL r ++ endB) = (r, endB) := fun cnt => by
    rw [readL_more endB r [] _ (hall cnt) (by rw [hrl]; simp) hle, List.nil_append]
    exact readL_stop (i := ⟨0, 0, 0, 0, 0⟩) (by rw [show (cutAt 10 endB).1 = [101, 110, 100] by decide]; exact parP_end) (fun hc => by rw [hrl] at hc; omega)
  unfold readR
  have he : endB.length = 4 := rfl
  rw [if_neg (by rw [List.length_append, he]; omega), hst]
  simp only
  rw [if_pos (by decide), hrl]
  rfl
theorem readR_long : readR (List.replicate 16385 0) = ([], 0, 3) := by
  unfold readR
  rw [if_pos (by rw [List.length_replicate]; omega)]
theorem readR_empty : readR [] = ([], 0, 0) := by decide +kernel
theorem takeF_zero : takeF [0] = some [] := by
  have h : Good 0 (fun _ => noI) := ⟨by omega, fun k hk => by omega, fun k hk => by omega⟩
  have := takeF_back h
  have e : putB 0 (fun _ => noI) = [0] := by unfold putB bodyB; rw [numF_small (by omega)]; rfl
  rw [e] at this
  exact this
theorem takeF_nil : takeF [] = none := by
  unfold takeF takeW
  have e : resC 256 [] = ((0 : Int), (4 : Int), 0) := by decide +kernel
  rw [e]
  simp
end Go.Proofs.YtmaljajdmgkakaaGreatDoor
