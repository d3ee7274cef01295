/- Walks over arena: Read, Write, Copy, Same of an arena that is there. -/
import Derived.Test.YthlaoanfoimkfaaDoorAr3
namespace Go.Proofs.YthlaoanfoimkfaaDoor
open Go.RowKit
set_option linter.unusedVariables false
set_option linter.unusedSimpArgs false
set_option maxRecDepth 100000

set_option maxHeartbeats 400000 in
theorem read_good (g gb cap : Nat) (bs : List UInt8) (c : Int) (off n : Nat) (w : World) (h : Ar w g gb cap bs c) (hfit : off + n ≤ bs.length) :
    Calls Tryd.prog 55 #[.pointer (some ⟨g, 0, none⟩), .int .i64 off, .int .i64 n] w fun e w' => (∃ g' cap', e = .returned (.tuple #[.slice (some ⟨g', 0, none⟩) n cap', .int .i64 0]) ∧ w'.ownsRow w.heap.size 5 1 (.slice (some ⟨g', 0, none⟩) n cap') n (U8s ((bs.drop off).take n))) ∧ Only [] w w' := by
  have k0 : w.cell? ⟨g, 0, none⟩ = some (.slice (some ⟨gb, 0, none⟩) bs.length cap) := by simpa using h.hdr.cell 0
  have hg := h.hdr.lt
  have hgb := h.lt
  have hp := h.pos
  have hm := h.max
  obtain ⟨hle, hcm⟩ := h.le
  unfold maxLen at hcm
  have i0 : (0 : Int) ≤ (off : Int) := by omega
  have i1 : (off : Int) ≤ (off : Int) + (n : Int) := by omega
  have i2 : (off : Int) + (n : Int) ≤ (cap : Int) := by omega
  have i3 : (off : Int) + (n : Int) ≤ (bs.length : Int) := by omega
  have i4 : IntKind.i64.wrap ((off : Int) + (n : Int)) = (off : Int) + (n : Int) := IntWalk.i64_in _ (by omega)
  have i5 : ((off : Int) + (n : Int)).toNat = off + n := by omega
  have hcell : ∀ j u, (U8s ((bs.drop off).take n))[j]? = some u → w.cell? ((⟨gb, off, none⟩ : Addr).add j) = some u := by
    intro j u hj
    rw [U8s_get, List.getElem?_take] at hj
    split at hj
    · rename_i hjn
      rw [List.getElem?_drop, List.getElem?_eq_getElem (by omega)] at hj
      rw [add_mk, h.cell (off + j) (by omega), List.getD_eq_getElem?_getD, List.getElem?_eq_getElem (by omega)]
      simpa using hj
    · simp at hj
  have hsl := fun W => run_cut_lh (P := Tryd.prog) Tryd.underlying38 (show (Tryd.prog.info? 5).map (·.size) = some 1 by kernel_rfl) (some ⟨gb, 0, none⟩) bs.length cap .i64 .i64 (off : Int) ((off : Int) + (n : Int)) off (off + n) rfl (by omega) (by omega) (by omega) W
  obtain ⟨ad, had, hblk⟩ : ∃ ad, Hid ((if cap = off then some (⟨gb, 0, none⟩ : Addr) else (some (⟨gb, 0, none⟩ : Addr)).map (·.add (off * 1))) = some ad) ∧ ad.block = gb := by
    by_cases hc : cap = off
    · rw [if_pos hc]; exact ⟨_, hide rfl, rfl⟩
    · rw [if_neg hc]; exact ⟨_, hide rfl, by rw [block_of_add]⟩
  rw [had.out, show off + n - off = n by omega] at hsl
  have hcell' : ∀ j u, (U8s ((bs.drop off).take n))[j]? = some u → w.cell? (ad.add j) = some u := by
    intro j u hj
    have hjn : j < n := by
      have h1 := (List.getElem?_eq_some_iff.1 hj).1
      rw [length_U8s, List.length_take] at h1
      omega
    have := had.out
    rw [if_neg (by omega)] at this
    simp only [Option.map_some, Option.some.injEq, add_mk, Nat.mul_one, Nat.zero_add] at this
    rw [← this]
    exact hcell j u hj
  clear hcell
  have hcell := hcell'
  clear hcell'
  have HB := Lib.hid hblk
  clear hblk
  have HC := Lib.hid hcell
  have hlen : ((bs.drop off).take n).length = n := by simp; omega
  have HL := Lib.hid hlen
  clear hlen
  have H4 := Lib.hid i4
  have H5 := Lib.hid i5
  clear hcell i4 i5
  go_enter Tryd.func55, Tryd.ntmps55
  go_wp2_with (first
    | (go_at_call 72; refine (askr_yes _ _ _ g gb bs.length cap off n _ (by simp [go_sem]) (by simp [go_sem]) (by simp [go_sem]) (cell_alloc _ (cell_alloc _ (cell_alloc _ k0))) hp i0 (by omega) (by omega) hm).mono ?_; rintro e w' ⟨rfl, k, rfl⟩))
  have q0 := cell_alloc (.cells #[.int .i64 (n : Int)] 3) (cell_alloc (.cells #[.int .i64 (off : Int)] 3) (cell_alloc (.cells #[.pointer (some ⟨g, 0, none⟩)] 51) k0))
  have q1 := (((Blk.new w 51 #[.pointer (some ⟨g, 0, none⟩)]).alloc (.cells #[.int .i64 (off : Int)] 3)).alloc (.cells #[.int .i64 (n : Int)] 3)).cell 0
  have q2 := (((Blk.new (w.alloc (.cells #[.pointer (some ⟨g, 0, none⟩)] 51)) 3 #[.int .i64 (off : Int)]).alloc (.cells #[.int .i64 (n : Int)] 3))).cell 0
  have q3 := (Blk.new ((w.alloc (.cells #[.pointer (some ⟨g, 0, none⟩)] 51)).alloc (.cells #[.int .i64 (off : Int)] 3)) 3 #[.int .i64 (n : Int)]).cell 0
  simp only [World.size_alloc] at q0 q1 q2 q3
  have i4 := H4.out
  have i5 := H5.out
  go_region_held3 (fun W => W.cell? ⟨g, 0, none⟩ = some (.slice (some ⟨gb, 0, none⟩) bs.length cap) ∧ W.cell? ⟨w.heap.size, 0, none⟩ = some (.pointer (some ⟨g, 0, none⟩)) ∧ W.cell? ⟨w.heap.size + 1, 0, none⟩ = some (.int .i64 off) ∧ W.cell? ⟨w.heap.size + 1 + 1, 0, none⟩ = some (.int .i64 n)) (go_keep) (first
    | (go_at_call 81
       refine (clone_any ad n _ ((bs.drop off).take n) _ HL.out (by intro j u hj; rw [World.cell?_drewN]; exact cell_alloc _ (cell_alloc _ (cell_alloc _ (HC.out j u hj)))) (by omega) (by simp [HB.out]; omega)).mono ?_
       rintro e w1 ⟨⟨g', cap', rfl, hv⟩, ho⟩
       have t0 := ho.keep0 q0
       have t1 := ho.keep0 q1
       have t2 := ho.keep0 q2
       have t3 := ho.keep0 q3))
  go_wp2
  go_ret2
  refine ⟨⟨g', cap', rfl, own_mono hv (by simp; omega)⟩, ?_⟩
  exact (((((Only.refl [] w).alloc _).alloc _).alloc _).drewN _).trans0 ho

set_option maxHeartbeats 400000 in
theorem write_core (g gb cap n m cp : Nat) (cur : List Value) (c : Int) (off : Nat) (a : Option Addr) (ds : List UInt8) (w : World) (hb : Blk w g 78 #[.slice (some ⟨gb, 0, none⟩) n cap, .int .i64 c]) (hr : Blk w gb 5 cur.toArray)
    (hne : gb ≠ g) (hcur : cur.length = cap) (hfit : off + m ≤ n) (hp : 0 < n) (hcap : n ≤ cap) (hn : n ≤ 65536) (hm : cap ≤ 9223372036854775807) (hl : ds.length = m) (hs : Src w a ds) :
    Calls Tryd.prog 43 #[.pointer (some ⟨g, 0, none⟩), .int .i64 off, .slice a m cp] w fun e w' => e = .returned (.int .i64 0) ∧ Only [gb] w w' ∧ Blk w' gb 5 (splice cur off (U8s ds)).toArray := by
  have k0 : w.cell? ⟨g, 0, none⟩ = some (.slice (some ⟨gb, 0, none⟩) n cap) := by simpa using hb.cell 0
  have hg := hb.lt
  have hgb := hr.lt
  have i0 : (0 : Int) ≤ (off : Int) := by omega
  have i1 : (off : Int) ≤ (n : Int) := by omega
  have hsl := fun W => run_cut_l (P := Tryd.prog) Tryd.underlying38 (show (Tryd.prog.info? 5).map (·.size) = some 1 by kernel_rfl) (some ⟨gb, 0, none⟩) n cap .i64 (off : Int) off rfl (by omega) W
  obtain ⟨ad, had⟩ : ∃ ad, Hid ((if cap = off then some (⟨gb, 0, none⟩ : Addr) else (some (⟨gb, 0, none⟩ : Addr)).map (·.add (off * 1))) = some ad) := by
    by_cases hc : cap = off
    · rw [if_pos hc]; exact ⟨_, hide rfl⟩
    · rw [if_neg hc]; exact ⟨_, hide rfl⟩
  rw [had.out] at hsl
  have hsz : (Tryd.prog.info? 5).map (·.size) = some 1 := by kernel_rfl
  have hcopy := fun k => run_copy_any (P := Tryd.prog) (w := (((w.alloc (.cells #[.pointer (some ⟨g, 0, none⟩)] 51)).alloc (.cells #[.int .i64 (off : Int)] 3)).alloc (.cells #[.slice a m cp] 38)).drewN k) 38 38 3 5 Tryd.underlying38 hsz (some ad) a (n - off) (cap - off) m cp gb off cur 5
    (((hr.alloc _).alloc _).alloc _) (U8s ds) (by rw [length_U8s]; have : Nat.min m (n - off) = m := Nat.min_eq_left (by omega); rw [this]; exact hl)
    (fun hpos => by
      rw [length_U8s] at hpos
      obtain ⟨sd, rfl, hsd⟩ := hs hpos
      have := had.out
      rw [if_neg (by omega)] at this
      simp only [Option.map_some, Option.some.injEq, add_mk, Nat.mul_one, Nat.zero_add] at this
      exact ⟨by rw [← this], sd, rfl, fun j v hj => cell_alloc _ (cell_alloc _ (cell_alloc _ (hsd j v hj)))⟩) (by rw [hcur, length_U8s]; omega) (U8s_one ds)
  have HC := hide hcopy
  have HD := hide hs
  clear hcopy hsz hl hs hcur had
  go_enter Tryd.func43, Tryd.ntmps43
  go_wp2_with (first
    | (go_at_call 72; refine (askw_yes _ _ _ g gb n cap off a m cp _ (by simp [go_sem]) (by simp [go_sem]) (by simp [go_sem]) (cell_alloc _ (cell_alloc _ (cell_alloc _ k0))) hp i0 (by omega) hn).mono ?_; rintro e w' ⟨rfl, k, rfl⟩))
  have q0 := cell_alloc (.cells #[.slice a m cp] 38) (cell_alloc (.cells #[.int .i64 (off : Int)] 3) (cell_alloc (.cells #[.pointer (some ⟨g, 0, none⟩)] 51) k0))
  have q1 := (((Blk.new w 51 #[.pointer (some ⟨g, 0, none⟩)]).alloc (.cells #[.int .i64 (off : Int)] 3)).alloc (.cells #[.slice a m cp] 38)).cell 0
  have q2 := (((Blk.new (w.alloc (.cells #[.pointer (some ⟨g, 0, none⟩)] 51)) 3 #[.int .i64 (off : Int)]).alloc (.cells #[.slice a m cp] 38))).cell 0
  have q3 := (Blk.new ((w.alloc (.cells #[.pointer (some ⟨g, 0, none⟩)] 51)).alloc (.cells #[.int .i64 (off : Int)] 3)) 38 #[.slice a m cp]).cell 0
  simp only [World.size_alloc] at q0 q1 q2 q3
  obtain ⟨w2, hrun, hb2, ho2⟩ := HC.out (k + 1)
  have hO : Only [gb] w w2 := ((((((Only.refl [gb] w).alloc _).alloc _).alloc _).drewN _)).trans' ho2
  have t0 : w2.cell? ⟨g, 0, none⟩ = some (.slice (some ⟨gb, 0, none⟩) n cap) := ho2.keep q0 (by simpa using hne.symm)
  have t1 := ho2.keep q1 (by simp; omega)
  have t2 := ho2.keep q2 (by simp; omega)
  have t3 := ho2.keep q3 (by simp; omega)
  go_region_held3 (fun W => W.cell? ⟨g, 0, none⟩ = some (.slice (some ⟨gb, 0, none⟩) n cap) ∧ W.cell? ⟨w.heap.size, 0, none⟩ = some (.pointer (some ⟨g, 0, none⟩)) ∧ W.cell? ⟨w.heap.size + 1, 0, none⟩ = some (.int .i64 off) ∧ W.cell? ⟨w.heap.size + 1 + 1, 0, none⟩ = some (.slice a m cp)) (go_keep) (fail)
  go_wp2
  go_ret
  exact ⟨rfl, hO, hb2⟩

theorem write_good (g gb cap m cp : Nat) (bs : List UInt8) (c : Int) (off : Nat) (a : Option Addr) (ds : List UInt8) (w : World) (h : Ar w g gb cap bs c) (hl : ds.length = m) (hfit : off + m ≤ bs.length) (hs : Src w a ds) :
    Calls Tryd.prog 43 #[.pointer (some ⟨g, 0, none⟩), .int .i64 off, .slice a m cp] w fun e w' => e = .returned (.int .i64 0) ∧ Only [gb] w w' ∧ Ar w' g gb cap (splice bs off ds) c := by
  obtain ⟨cur, hcur, hlc, ht, hn, hm, _⟩ := own_block h.row
  have hmm := hm
  unfold maxLen at hmm
  have hlen : (splice bs off ds).length = bs.length := length_splice _ _ _ (by omega)
  refine (write_core g gb cap bs.length m cp cur c off a ds w h.hdr hcur h.ne hlc hfit h.pos hn h.max (by omega) hl hs).mono ?_
  rintro e w' ⟨rfl, ho', hr'⟩
  refine ⟨rfl, ho', ⟨by rw [hlen]; exact h.hdr.only ho' (by simpa using h.ne.symm), ?_, by rw [hlen]; exact h.pos, by rw [hlen]; exact h.max, by rw [hlen]; exact h.d8⟩⟩
  have := own_splice h.row hcur hr' (by rw [length_U8s]; omega)
  rw [hlen]
  unfold U8s at this ⊢
  rw [splice_map]
  exact this

set_option maxHeartbeats 400000 in
theorem copy_any (g gb cap : Nat) (bs : List UInt8) (c : Int) (w : World) (h : Ar w g gb cap bs c) :
    Calls Tryd.prog 71 #[.pointer (some ⟨g, 0, none⟩)] w fun e w' => (∃ g' gb' cap', e = .returned (.pointer (some ⟨g', 0, none⟩)) ∧ Ar w' g' gb' cap' bs c ∧ w.heap.size ≤ g' ∧ w.heap.size ≤ gb') ∧ Only [] w w' := by
  have k0 : w.cell? ⟨g, 0, none⟩ = some (.slice (some ⟨gb, 0, none⟩) bs.length cap) := by simpa using h.hdr.cell 0
  have k1 : w.cell? ⟨g, 1, none⟩ = some (.int .i64 c) := by simpa using h.hdr.cell 1
  have hp := h.pos
  have hm := h.max
  have hgb := h.lt
  have hcell : ∀ j u, (U8s bs)[j]? = some u → w.cell? ((⟨gb, 0, none⟩ : Addr).add j) = some u := by
    intro j u hj
    have hjn := (List.getElem?_eq_some_iff.1 hj).1
    rw [length_U8s] at hjn
    rw [add_mk, Nat.zero_add, h.row.cellAt j (by omega)]
    exact hj
  have HC := hide hcell
  clear hcell
  go_enter Tryd.func71, Tryd.ntmps71
  go_wp2_with (first | (go_at_call 74; refine (there_yes _ _ _ _ _ k0 hp).mono ?_; rintro e w' ⟨rfl, rfl⟩))
  go_region_held3 (fun W => W.cell? ⟨g, 0, none⟩ = some (.slice (some ⟨gb, 0, none⟩) bs.length cap) ∧ W.cell? ⟨g, 1, none⟩ = some (.int .i64 c)) (go_keep) (first
    | (go_at_call 81
       refine (clone_any _ bs.length _ bs _ rfl (by intro j u hj; exact HC.out j u hj) (by omega) (by exact hgb)).mono ?_
       rintro e w1 ⟨⟨g', cap', rfl, hv⟩, ho⟩
       have t0 := ho.keep0 k0
       have t1 := ho.keep0 k1))
  go_wp2
  go_ret
  have hO : Only [] w w1 := (Only.refl [] w).drew.trans0 ho
  refine ⟨⟨w1.heap.size, g', cap', rfl, ⟨Blk.new _ _ _, own_mono (hv.alloc _) (Nat.zero_le _), h.pos, h.max, h.d8⟩, hO.size, (hv.lt g' rfl).1⟩, hO.alloc _⟩

end Go.Proofs.YthlaoanfoimkfaaDoor
