/- Code: an instruction's bytes, a program's; the walks of Put, of the document's Put. Condition: a program that may be. -/
import Derived.Test.YtmaljajdmgkakaaGreatDoorCt3
import Derived.Test.YtmaljajdmgkakaaGreatDoorWi8
import Derived.Deep.RegionHeld3
namespace Go.Proofs.YtmaljajdmgkakaaGreatDoor
open Go.RowKit
set_option linter.unusedVariables false
set_option linter.all false
set_option maxRecDepth 20000
attribute [local go_sem ↓] app_hide

/-- An instruction's bytes. -/
def insB (i : Ins) : List UInt8 := numF i.op.toNat ++ (numF i.d.toNat ++ (numF i.a.toNat ++ (numF i.b.toNat ++ numF (zig i.imm))))
def bodyB (f : Nat → Ins) : Nat → List UInt8
  | 0 => []
  | q + 1 => bodyB f q ++ insB (f q)
/-- A program's bytes. -/
def putB (n : Nat) (f : Nat → Ins) : List UInt8 := numF n ++ bodyB f n
theorem nats_of {i : Ins} (hm : mayI i 256 = true) : ∃ o d a b : Nat, o < 9 ∧ d < 8 ∧ a < 8 ∧ b < 8 ∧ i = ⟨o, d, a, b, i.imm⟩ := by
  obtain ⟨⟨p0, p1⟩, hd, ha, hb, -⟩ := mayI_parts hm
  have h8 : ∀ (n : Bool) (x : Int), regOk n x = true → 0 ≤ x ∧ x < 8 := by
    intro n x h
    unfold regOk at h
    cases n <;> simp at h <;> omega
  have := h8 _ _ hd
  have := h8 _ _ ha
  have := h8 _ _ hb
  refine ⟨i.op.toNat, i.d.toNat, i.a.toNat, i.b.toNat, by omega, by omega, by omega, by omega, ?_⟩
  obtain ⟨o, d, a, b, m⟩ := i
  simp at *
  omega
theorem numF_small8 {n : Nat} (h : n < 128) : (numF n).length = 1 := by rw [numF_small (by omega)]; rfl
theorem insB_len {i : Ins} (hm : mayI i 256 = true) (h0 : -9223372036854775808 ≤ i.imm) (h1 : i.imm ≤ 9223372036854775807) : (insB i).length ≤ 14 := by
  obtain ⟨o, d, a, b, ho, hd, ha, hb, hi⟩ := nats_of hm
  have hz := numF_len10 (zig i.imm) (zig_lt _ h0 h1)
  rw [hi]
  have e1 := numF_small8 (n := o) (by omega)
  have e2 := numF_small8 (n := d) (by omega)
  have e3 := numF_small8 (n := a) (by omega)
  have e4 := numF_small8 (n := b) (by omega)
  simp only [insB, Int.toNat_natCast, List.length_append]
  omega
theorem pcs5 {w : World} {g1 g2 g3 g4 g5 c1 c2 c3 c4 c5 : Nat} {l1 l2 l3 l4 l5 : List UInt8} (h1 : Src w (some ⟨g1, 0, none⟩) l1) (h2 : Src w (some ⟨g2, 0, none⟩) l2) (h3 : Src w (some ⟨g3, 0, none⟩) l3) (h4 : Src w (some ⟨g4, 0, none⟩) l4) (h5 : Src w (some ⟨g5, 0, none⟩) l5) :
    Pcs (w.alloc (.cells #[.slice (some ⟨g1, 0, none⟩) l1.length c1, .slice (some ⟨g2, 0, none⟩) l2.length c2, .slice (some ⟨g3, 0, none⟩) l3.length c3, .slice (some ⟨g4, 0, none⟩) l4.length c4, .slice (some ⟨g5, 0, none⟩) l5.length c5] 33)) (some ⟨w.heap.size, 0, none⟩) [l1, l2, l3, l4, l5] := by
  intro j ds hj
  have hb := Blk.new w 33 #[.slice (some ⟨g1, 0, none⟩) l1.length c1, .slice (some ⟨g2, 0, none⟩) l2.length c2, .slice (some ⟨g3, 0, none⟩) l3.length c3, .slice (some ⟨g4, 0, none⟩) l4.length c4, .slice (some ⟨g5, 0, none⟩) l5.length c5]
  rcases j with _ | _ | _ | _ | _ | j
  · obtain rfl : l1 = ds := by simpa using hj
    exact ⟨_, some ⟨g1, 0, none⟩, c1, rfl, by rw [add_mk]; exact hb.cell 0, h1.alloc _⟩
  · obtain rfl : l2 = ds := by simpa using hj
    exact ⟨_, some ⟨g2, 0, none⟩, c2, rfl, by rw [add_mk]; exact hb.cell 1, h2.alloc _⟩
  · obtain rfl : l3 = ds := by simpa using hj
    exact ⟨_, some ⟨g3, 0, none⟩, c3, rfl, by rw [add_mk]; exact hb.cell 2, h3.alloc _⟩
  · obtain rfl : l4 = ds := by simpa using hj
    exact ⟨_, some ⟨g4, 0, none⟩, c4, rfl, by rw [add_mk]; exact hb.cell 3, h4.alloc _⟩
  · obtain rfl : l5 = ds := by simpa using hj
    exact ⟨_, some ⟨g5, 0, none⟩, c5, rfl, by rw [add_mk]; exact hb.cell 4, h5.alloc _⟩
  · simp at hj

set_option maxHeartbeats 8000000 in
theorem put1_any (i : Ins) (w : World) (hm : mayI i 256 = true) (h0 : -9223372036854775808 ≤ i.imm) (h1 : i.imm ≤ 9223372036854775807) : Calls Tryz.prog 47 #[.agg (insV i)] w (Fresh w (insB i)) := by
  obtain ⟨o, d, a, b, ho, hd, ha, hb, hi⟩ := nats_of hm
  have hbl := insB_len hm h0 h1
  obtain ⟨m, him⟩ : ∃ m, i.imm = m := ⟨_, rfl⟩
  rw [him] at hi h0 h1
  subst hi
  clear him hm
  have NB1 := hide (fun W => number_any o (by omega) W)
  have NB2 := hide (fun W => number_any d (by omega) W)
  have NB3 := hide (fun W => number_any a (by omega) W)
  have NB4 := hide (fun W => number_any b (by omega) W)
  have SB5 := hide (fun W => signed_any m h0 h1 W)
  unfold insB at hbl ⊢
  simp only [Int.toNat_natCast] at hbl ⊢
  obtain ⟨l1, hl1⟩ : ∃ x, numF o = x := ⟨_, rfl⟩
  obtain ⟨l2, hl2⟩ : ∃ x, numF d = x := ⟨_, rfl⟩
  obtain ⟨l3, hl3⟩ : ∃ x, numF a = x := ⟨_, rfl⟩
  obtain ⟨l4, hl4⟩ : ∃ x, numF b = x := ⟨_, rfl⟩
  obtain ⟨l5, hl5⟩ : ∃ x, numF (zig m) = x := ⟨_, rfl⟩
  rw [hl1] at NB1
  rw [hl2] at NB2
  rw [hl3] at NB3
  rw [hl4] at NB4
  rw [hl5] at SB5
  rw [hl1, hl2, hl3, hl4, hl5] at hbl ⊢
  simp only [List.length_append] at hbl
  have HL := hide hbl
  have w1 : IntKind.u64.wrap (o : Int) = (o : Int) := by rw [IntKind.wrap_u64]; omega
  have w2 : IntKind.u64.wrap (d : Int) = (d : Int) := by rw [IntKind.wrap_u64]; omega
  have w3 : IntKind.u64.wrap (a : Int) = (a : Int) := by rw [IntKind.wrap_u64]; omega
  have w4 : IntKind.u64.wrap (b : Int) = (b : Int) := by rw [IntKind.wrap_u64]; omega
  clear hl1 hl2 hl3 hl4 hl5 hbl h0 h1
  have nb := Blk.new w 25 (insV ⟨o, d, a, b, m⟩)
  have oV := (Only.refl [] w).alloc (.cells (insV ⟨o, d, a, b, m⟩) 25)
  unfold insV at nb oV ⊢
  simp only at nb oV ⊢
  have NBX := hide nb
  have OV := hide oV
  clear nb oV
  go_enter Tryz.func47, Tryz.ntmps47
  go_wp2_with fail
  obtain ⟨X, hX⟩ : ∃ X, w.heap.size = X := ⟨_, rfl⟩
  obtain ⟨V, hV⟩ : ∃ V, w.alloc (.cells #[.int .i64 (o : Int), .int .i64 (d : Int), .int .i64 (a : Int), .int .i64 (b : Int), .int .i64 m] 25) = V := ⟨_, rfl⟩
  rw [hV, hX] at NBX
  rw [hV] at OV
  rw [hV]
  simp only [hX]
  have KX := hide (fun U1 (oo : Only [] V U1) => show U1.cell? ⟨X, 0, none⟩ = some (.int .i64 (o : Int)) ∧ U1.cell? ⟨X, 1, none⟩ = some (.int .i64 (d : Int)) ∧ U1.cell? ⟨X, 2, none⟩ = some (.int .i64 (a : Int)) ∧ U1.cell? ⟨X, 3, none⟩ = some (.int .i64 (b : Int)) ∧ U1.cell? ⟨X, 4, none⟩ = some (.int .i64 m) from by have := NBX.out.only oo (by simp); exact ⟨this.cell 0, this.cell 1, this.cell 2, this.cell 3, this.cell 4⟩)
  have HX := hide hX
  clear hV hX NBX
  refine wp_region_held_drew (S := (fun U1 => Only [] V U1)) (by kernel_rfl) ((Only.refl _ V).drew) (fun hHeld => ?_)
  revert hHeld
  generalize V.drew = u0
  intro hHeld
  refine wpAnyH_take (i := 0) (oi := ⟨some 3, _, _, _, _, _⟩) (v := ?vp1) rfl (by kernel_rfl) (by kernel_rfl) (by kernel_rfl) (fun _ _ _ h => h) (Or.inl ⟨by rfl, ?hyp1⟩) (by assumption) ?restp1
  case hyp1 => (intro V hSw; (try dsimp only at hSw); go_simp; first | done | (with_reducible rfl))
  try simp only [Act.put, List.setIfInBounds_toArray, List.set_cons_zero, List.set_cons_succ]
  refine wpAnyH_take (i := 1) (oi := ⟨some 4, _, _, _, _, _⟩) (v := ?vp2) rfl (by kernel_rfl) (by kernel_rfl) (by kernel_rfl) (fun _ _ _ h => h) (Or.inl ⟨by rfl, ?hyp2⟩) (by assumption) ?restp2
  case hyp2 => (intro V hSw; (try dsimp only at hSw); obtain ⟨y0, y1, y2, y3, y4⟩ := KX.out V hSw; go_simp; first | done | (with_reducible rfl))
  try simp only [Act.put, List.setIfInBounds_toArray, List.set_cons_zero, List.set_cons_succ]
  refine wpAnyH_take (i := 2) (oi := ⟨some 5, _, _, _, _, _⟩) (v := ?vp3) rfl (by kernel_rfl) (by kernel_rfl) (by kernel_rfl) (fun _ _ _ h => h) (Or.inl ⟨by rfl, ?hyp3⟩) (by assumption) ?restp3
  case hyp3 => (intro V hSw; (try dsimp only at hSw); go_simp; first | done | (with_reducible rfl))
  try simp only [Act.put, List.setIfInBounds_toArray, List.set_cons_zero, List.set_cons_succ]
  refine wpAnyH_take (i := 4) (oi := ⟨some 7, _, _, _, _, _⟩) (v := ?vp4) rfl (by kernel_rfl) (by kernel_rfl) (by kernel_rfl) (fun _ _ _ h => h) (Or.inl ⟨by rfl, ?hyp4⟩) (by assumption) ?restp4
  case hyp4 => (intro V hSw; (try dsimp only at hSw); go_simp; first | done | (with_reducible rfl))
  try simp only [Act.put, List.setIfInBounds_toArray, List.set_cons_zero, List.set_cons_succ]
  refine wpAnyH_take (i := 5) (oi := ⟨some 8, _, _, _, _, _⟩) (v := ?vp5) rfl (by kernel_rfl) (by kernel_rfl) (by kernel_rfl) (fun _ _ _ h => h) (Or.inl ⟨by rfl, ?hyp5⟩) (by assumption) ?restp5
  case hyp5 => (intro V hSw; (try dsimp only at hSw); obtain ⟨y0, y1, y2, y3, y4⟩ := KX.out V hSw; go_simp; first | done | (with_reducible rfl))
  try simp only [Act.put, List.setIfInBounds_toArray, List.set_cons_zero, List.set_cons_succ]
  refine wpAnyH_take (i := 6) (oi := ⟨some 9, _, _, _, _, _⟩) (v := ?vp6) rfl (by kernel_rfl) (by kernel_rfl) (by kernel_rfl) (fun _ _ _ h => h) (Or.inl ⟨by rfl, ?hyp6⟩) (by assumption) ?restp6
  case hyp6 => (intro V hSw; (try dsimp only at hSw); go_simp; first | done | (with_reducible rfl))
  try simp only [Act.put, List.setIfInBounds_toArray, List.set_cons_zero, List.set_cons_succ]
  refine wpAnyH_take (i := 8) (oi := ⟨some 11, _, _, _, _, _⟩) (v := ?vp7) rfl (by kernel_rfl) (by kernel_rfl) (by kernel_rfl) (fun _ _ _ h => h) (Or.inl ⟨by rfl, ?hyp7⟩) (by assumption) ?restp7
  case hyp7 => (intro V hSw; (try dsimp only at hSw); go_simp; first | done | (with_reducible rfl))
  try simp only [Act.put, List.setIfInBounds_toArray, List.set_cons_zero, List.set_cons_succ]
  refine wpAnyH_take (i := 9) (oi := ⟨some 12, _, _, _, _, _⟩) (v := ?vp8) rfl (by kernel_rfl) (by kernel_rfl) (by kernel_rfl) (fun _ _ _ h => h) (Or.inl ⟨by rfl, ?hyp8⟩) (by assumption) ?restp8
  case hyp8 => (intro V hSw; (try dsimp only at hSw); obtain ⟨y0, y1, y2, y3, y4⟩ := KX.out V hSw; go_simp; first | done | (with_reducible rfl))
  try simp only [Act.put, List.setIfInBounds_toArray, List.set_cons_zero, List.set_cons_succ]
  refine wpAnyH_take (i := 10) (oi := ⟨some 13, _, _, _, _, _⟩) (v := ?vp9) rfl (by kernel_rfl) (by kernel_rfl) (by kernel_rfl) (fun _ _ _ h => h) (Or.inl ⟨by rfl, ?hyp9⟩) (by assumption) ?restp9
  case hyp9 => (intro V hSw; (try dsimp only at hSw); go_simp; first | done | (with_reducible rfl))
  try simp only [Act.put, List.setIfInBounds_toArray, List.set_cons_zero, List.set_cons_succ]
  refine wpAnyH_take (i := 12) (oi := ⟨some 15, _, _, _, _, _⟩) (v := ?vp10) rfl (by kernel_rfl) (by kernel_rfl) (by kernel_rfl) (fun _ _ _ h => h) (Or.inl ⟨by rfl, ?hyp10⟩) (by assumption) ?restp10
  case hyp10 => (intro V hSw; (try dsimp only at hSw); go_simp; first | done | (with_reducible rfl))
  try simp only [Act.put, List.setIfInBounds_toArray, List.set_cons_zero, List.set_cons_succ]
  refine wpAnyH_take (i := 13) (oi := ⟨some 16, _, _, _, _, _⟩) (v := ?vp11) rfl (by kernel_rfl) (by kernel_rfl) (by kernel_rfl) (fun _ _ _ h => h) (Or.inl ⟨by rfl, ?hyp11⟩) (by assumption) ?restp11
  case hyp11 => (intro V hSw; (try dsimp only at hSw); obtain ⟨y0, y1, y2, y3, y4⟩ := KX.out V hSw; go_simp; first | done | (with_reducible rfl))
  try simp only [Act.put, List.setIfInBounds_toArray, List.set_cons_zero, List.set_cons_succ]
  refine wpAnyH_take (i := 14) (oi := ⟨some 17, _, _, _, _, _⟩) (v := ?vp12) rfl (by kernel_rfl) (by kernel_rfl) (by kernel_rfl) (fun _ _ _ h => h) (Or.inl ⟨by rfl, ?hyp12⟩) (by assumption) ?restp12
  case hyp12 => (intro V hSw; (try dsimp only at hSw); go_simp; first | done | (with_reducible rfl))
  try simp only [Act.put, List.setIfInBounds_toArray, List.set_cons_zero, List.set_cons_succ]
  refine wpAnyH_take (i := 16) (oi := ⟨some 19, _, _, _, _, _⟩) (v := ?vp13) rfl (by kernel_rfl) (by kernel_rfl) (by kernel_rfl) (fun _ _ _ h => h) (Or.inl ⟨by rfl, ?hyp13⟩) (by assumption) ?restp13
  case hyp13 => (intro V hSw; (try dsimp only at hSw); go_simp; first | done | (with_reducible rfl))
  try simp only [Act.put, List.setIfInBounds_toArray, List.set_cons_zero, List.set_cons_succ]
  refine wpAnyH_take (i := 17) (oi := ⟨some 20, _, _, _, _, _⟩) (v := ?vp14) rfl (by kernel_rfl) (by kernel_rfl) (by kernel_rfl) (fun _ _ _ h => h) (Or.inl ⟨by rfl, ?hyp14⟩) (by assumption) ?restp14
  case hyp14 => (intro V hSw; (try dsimp only at hSw); obtain ⟨y0, y1, y2, y3, y4⟩ := KX.out V hSw; go_simp; first | done | (with_reducible rfl))
  try simp only [Act.put, List.setIfInBounds_toArray, List.set_cons_zero, List.set_cons_succ]
  refine wpAnyH_ready (rs := [3]) (by kernel_rfl) (by simp) ?_
  refine AllReadyH.cons (o := ⟨some 6, _, _, _, _, _⟩) rfl (fun K hK => ?_) (AllReadyH.nil)
  rw [if_pos (by rfl)]
  go_simp
  (with_reducible refine (NB1.out _).mono ?_); intro e u1 hfr; obtain ⟨o', g1, c1, rfl, r1⟩ := hfr; have R1 := hide r1; have OS := hide (show Only [] V u1 from (show Only [] V u0 from hHeld).trans0 o'); have S1 := hide (Src.own R1.out); clear o' r1
  try dsimp only
  refine hK.out _ _ (OS.out) (fun hHeld => ?_)
  clear hK K
  try simp only [Act.put, List.setIfInBounds_toArray, List.set_cons_zero, List.set_cons_succ]
  refine wpAnyH_ready (rs := [7]) (by kernel_rfl) (by simp) ?_
  refine AllReadyH.cons (o := ⟨some 10, _, _, _, _, _⟩) rfl (fun K hK => ?_) (AllReadyH.nil)
  rw [if_pos (by rfl)]
  go_simp
  (with_reducible refine (NB2.out _).mono ?_); intro e u2 hfr; obtain ⟨o', g2, c2, rfl, r2⟩ := hfr; have R2 := hide r2; have OS := hide (show Only [] V u2 from (show Only [] V u1 from hHeld).trans0 o'); have S1 := hide (S1.out.only0 o'); have S2 := hide (Src.own R2.out); clear o' r2
  try dsimp only
  refine hK.out _ _ (OS.out) (fun hHeld => ?_)
  clear hK K
  try simp only [Act.put, List.setIfInBounds_toArray, List.set_cons_zero, List.set_cons_succ]
  refine wpAnyH_ready (rs := [11]) (by kernel_rfl) (by simp) ?_
  refine AllReadyH.cons (o := ⟨some 14, _, _, _, _, _⟩) rfl (fun K hK => ?_) (AllReadyH.nil)
  rw [if_pos (by rfl)]
  go_simp
  (with_reducible refine (NB3.out _).mono ?_); intro e u3 hfr; obtain ⟨o', g3, c3, rfl, r3⟩ := hfr; have R3 := hide r3; have OS := hide (show Only [] V u3 from (show Only [] V u2 from hHeld).trans0 o'); have S1 := hide (S1.out.only0 o'); have S2 := hide (S2.out.only0 o'); have S3 := hide (Src.own R3.out); clear o' r3
  try dsimp only
  refine hK.out _ _ (OS.out) (fun hHeld => ?_)
  clear hK K
  try simp only [Act.put, List.setIfInBounds_toArray, List.set_cons_zero, List.set_cons_succ]
  refine wpAnyH_ready (rs := [15]) (by kernel_rfl) (by simp) ?_
  refine AllReadyH.cons (o := ⟨some 18, _, _, _, _, _⟩) rfl (fun K hK => ?_) (AllReadyH.nil)
  rw [if_pos (by rfl)]
  go_simp
  (with_reducible refine (NB4.out _).mono ?_); intro e u4 hfr; obtain ⟨o', g4, c4, rfl, r4⟩ := hfr; have R4 := hide r4; have OS := hide (show Only [] V u4 from (show Only [] V u3 from hHeld).trans0 o'); have S1 := hide (S1.out.only0 o'); have S2 := hide (S2.out.only0 o'); have S3 := hide (S3.out.only0 o'); have S4 := hide (Src.own R4.out); clear o' r4
  try dsimp only
  refine hK.out _ _ (OS.out) (fun hHeld => ?_)
  clear hK K
  try simp only [Act.put, List.setIfInBounds_toArray, List.set_cons_zero, List.set_cons_succ]
  refine wpAnyH_ready (rs := [18]) (by kernel_rfl) (by simp) ?_
  refine AllReadyH.cons (o := ⟨some 21, _, _, _, _, _⟩) rfl (fun K hK => ?_) (AllReadyH.nil)
  rw [if_pos (by rfl)]
  go_simp
  (with_reducible refine (SB5.out _).mono ?_); intro e u5 hfr; obtain ⟨o', g5, c5, rfl, r5⟩ := hfr; have R5 := hide r5; have OS := hide (show Only [] V u5 from (show Only [] V u4 from hHeld).trans0 o'); have S1 := hide (S1.out.only0 o'); have S2 := hide (S2.out.only0 o'); have S3 := hide (S3.out.only0 o'); have S4 := hide (S4.out.only0 o'); have S5 := hide (Src.own R5.out); clear o' r5
  try dsimp only
  refine hK.out _ _ (OS.out) (fun hHeld => ?_)
  clear hK K
  try simp only [Act.put, List.setIfInBounds_toArray, List.set_cons_zero, List.set_cons_succ]
  refine wpAnyH_ready (rs := [19]) (by kernel_rfl) (by simp) ?_
  refine AllReadyH.cons (o := ⟨some 22, _, _, _, _, _⟩) rfl (fun K hK => ?_) (AllReadyH.nil)
  rw [if_pos (by rfl)]
  go_simp
  have PC := hide (pcs5 (c1 := c1) (c2 := c2) (c3 := c3) (c4 := c4) (c5 := c5) S1.out S2.out S3.out S4.out S5.out); obtain ⟨P, hP⟩ : ∃ P, u5.heap.size = P := ⟨_, rfl⟩; obtain ⟨u6, hu⟩ : ∃ u, u5.alloc (.cells #[.slice (some ⟨g1, 0, none⟩) l1.length c1, .slice (some ⟨g2, 0, none⟩) l2.length c2, .slice (some ⟨g3, 0, none⟩) l3.length c3, .slice (some ⟨g4, 0, none⟩) l4.length c4, .slice (some ⟨g5, 0, none⟩) l5.length c5] 33) = u := ⟨_, rfl⟩; have OS := hide (show Only [] V u6 from by rw [← hu]; exact (show Only [] V u5 from hHeld).alloc _); rw [hP, hu] at PC; rw [hP, hu]; clear hP hu
  try dsimp only
  refine hK.out _ _ (OS.out) (fun hHeld => ?_)
  clear hK K
  try simp only [Act.put, List.setIfInBounds_toArray, List.set_cons_zero, List.set_cons_succ]
  refine wpAnyH_ready (rs := [20]) (by kernel_rfl) (by simp) ?_
  refine AllReadyH.cons (o := ⟨some 23, _, _, _, _, _⟩) rfl (fun K hK => ?_) (AllReadyH.nil)
  rw [if_pos (by rfl)]
  go_simp
  (with_reducible refine (joinb_any (some ⟨P, 0, none⟩) 5 5 [l1, l2, l3, l4, l5] u6 rfl (by omega) PC.out (by have := HL.out; simp; omega)).mono ?_); intro e u7 hfr; obtain ⟨o', g7, c7, rfl, r7⟩ := hfr; have R7 := hide (own_mono r7 (show w.heap.size ≤ u6.heap.size from (OV.out.trans0 (show Only [] V u6 from hHeld)).size)); have OS := hide (show Only [] V u7 from (show Only [] V u6 from hHeld).trans0 o'); clear o' r7
  try dsimp only
  refine hK.out _ _ (OS.out) (fun hHeld => ?_)
  clear hK K
  try simp only [Act.put, List.setIfInBounds_toArray, List.set_cons_zero, List.set_cons_succ]
  refine wpAnyH_take (i := 21) (oi := ⟨some 2, _, _, _, _, _⟩) (v := ?vp15) rfl (by kernel_rfl) (by kernel_rfl) (by kernel_rfl) (fun _ _ _ h => h) (Or.inl ⟨by rfl, ?hyp15⟩) (by assumption) ?restp15
  case hyp15 => (intro V hSw; (try dsimp only at hSw); go_simp; first | done | (with_reducible rfl))
  try simp only [Act.put, List.setIfInBounds_toArray, List.set_cons_zero, List.set_cons_succ]
  refine wpAnyH_done (by kernel_rfl) ?_ _
  have O9 := hide (OV.out.trans0 OS.out)
  clear hHeld OS KX
  go_wp2_with fail
  go_ret
  have e : [l1, l2, l3, l4, l5].flatten = l1 ++ (l2 ++ (l3 ++ (l4 ++ l5))) := by simp
  have r7 := R7.out
  rw [e] at r7
  exact ⟨O9.out, g7, c7, by simp only [List.length_append]; rfl, r7⟩
theorem bodyB_len {n : Nat} {f : Nat → Ins} (hg : Good n f) : ∀ q, q ≤ n → (bodyB f q).length ≤ 14 * q
  | 0, _ => by simp [bodyB]
  | q + 1, h => by
    have := bodyB_len hg q (by omega)
    have h2 := insB_len (hg.may256 (show q < n by omega)) (hg.imm q (by omega)).1 (hg.imm q (by omega)).2
    simp [bodyB]; omega
theorem eq106 (w : World) : (binOp .eql 106 (.func (.func 47) #[] #[]) .nilFunc).run Tryz.prog w = .ok (.bool false) w := by kernel_rfl
def Put (w : World) (l : List UInt8) (e : Ending) (w' : World) : Prop := Only [] w w' ∧ ∃ g c : Nat, e = .returned (.tuple #[.slice (some ⟨g, 0, none⟩) l.length c, .int .i64 0]) ∧ w'.ownsRow w.heap.size 5 1 (.slice (some ⟨g, 0, none⟩) l.length c) l.length (U8s l)
set_option maxHeartbeats 8000000 in
theorem wput_good (A : Option Addr) (n c : Nat) (f : Nat → Ins) (w : World) (hA : InsAt w A n f) (hg : Good n f) : Calls Tryz.prog 46 #[.slice A n c, .func (.func 47) #[] #[]] w (Put w (putB n f)) := by
  have hn := hg.len
  have HA := hide hA
  have HG := hide hg
  have e0 := eq106
  have wn : IntKind.u64.wrap (n : Int) = (n : Int) := by rw [IntKind.wrap_u64]; omega
  have NB := hide (fun W => number_any n (by omega) W)
  have h10 := numF_len10 n (by omega)
  clear hA hg
  go_enter Tryz.func46, Tryz.ntmps46
  go_wp2_with (go_at_call 49; (with_reducible refine (NB.out _).mono ?_); intro e w1 hfr; obtain ⟨o', g1, c1, rfl, r1⟩ := hfr; have R1 := hide r1; have O1 := hide o'; clear r1 o')
  go_loopw [6, 17] (fun v6 v17 wr => ∃ (q g co : Nat) (done : List UInt8), q ≤ n ∧ v6 = .slice (some ⟨g, 0, none⟩) done.length co ∧ v17 = .int .i64 q ∧ Hid (Only [] w wr) ∧ Hid (done = numF n ++ bodyB f q) ∧ Hid (wr.ownsRow w.heap.size 5 1 (.slice (some ⟨g, 0, none⟩) done.length co) done.length (U8s done))) (fun _ v17 _ => n - (intOf v17).toNat)
  case atStart => exact ⟨0, g1, c1, numF n, by omega, rfl, rfl, O1, hide (by simp [bodyB]), R1⟩
  case round =>
    clear R1 O1 NB
    obtain ⟨q, g, co, done, hq, rfl, rfl, hO, hD, hR⟩ := hrel
    by_cases hqn : q < n
    · obtain ⟨a, rfl, e0, e1, e2, e3, e4⟩ := HA.out q hqn
      have c0 := hO.out.keep0 e0
      have c1 := hO.out.keep0 e1
      have c2 := hO.out.keep0 e2
      have c3 := hO.out.keep0 e3
      have c4 := hO.out.keep0 e4
      have j0 : (0 : Int) ≤ (q : Int) := by omega
      have j1 : (q : Int) < (n : Int) := by omega
      have him := HG.out.imm q hqn
      have PN := fun W => put1_any (f q) W (HG.out.may256 hqn) him.1 him.2
      have hst := hide (show bodyB f (q + 1) = bodyB f q ++ insB (f q) from rfl)
      have hbl := bodyB_len HG.out (q + 1) (by omega)
      rw [hst.out, List.length_append] at hbl
      have hdl : done.length ≤ 10 + (bodyB f q).length := by rw [hD.out, List.length_append]; omega
      have HBL := hide (show done.length + (insB (f q)).length ≤ 100000 by omega)
      clear hbl hdl
      obtain ⟨o, ho⟩ : ∃ x, (f q).op = x := ⟨_, rfl⟩
      obtain ⟨d, hd⟩ : ∃ x, (f q).d = x := ⟨_, rfl⟩
      obtain ⟨a', ha⟩ : ∃ x, (f q).a = x := ⟨_, rfl⟩
      obtain ⟨b', hb'⟩ : ∃ x, (f q).b = x := ⟨_, rfl⟩
      obtain ⟨m, hm⟩ : ∃ x, (f q).imm = x := ⟨_, rfl⟩
      unfold insV at PN
      rw [ho, hd, ha, hb', hm] at PN
      rw [ho] at c0
      rw [hd] at c1
      rw [ha] at c2
      rw [hb'] at c3
      rw [hm] at c4
      obtain ⟨ib, hib⟩ : ∃ x, insB (f q) = x := ⟨_, rfl⟩
      rw [hib] at PN HBL
      have HIB := hide hib
      have PN := hide PN
      have nb := Blk.new wr 25 #[.int .i64 o, .int .i64 d, .int .i64 a', .int .i64 b', .int .i64 m]
      have oA := (Only.refl [] wr).alloc (.cells #[.int .i64 o, .int .i64 d, .int .i64 a', .int .i64 b', .int .i64 m] 25)
      have OA := hide (hO.out.trans0 oA)
      have RA := hide (own_only' hR.out oA (by simp))
      have k0 := nb.cell 0
      have k1 := nb.cell 1
      have k2 := nb.cell 2
      have k3 := nb.cell 3
      have k4 := nb.cell 4
      clear e1 e2 e3 e4 him ho hd ha hb' hm hib nb hR hO oA
      go_wp2_with (go_at_call 47; (with_reducible refine (PN.out _).mono ?_); intro e w3 hfr; obtain ⟨o', g3, c3', rfl, r3⟩ := hfr; obtain ⟨A2, c2', w4, hrun, hrow2, o2, hk, hA2⟩ := run_app_src w.heap.size _ _ co done _ _ c3' ib w3 (own_only' RA.out o' (by simp)) rfl (Src.own r3) (by have := HBL.out; omega) (OA.out.trans0 o').size; have HA2 := hide (hA2 (by simp)); have HR2 := hide hrow2; have O4 := hide ((OA.out.trans0 o').trans o2 (fun x hx => .inr (own_ge RA.out x hx).1)); clear r3 hrow2 hA2 hk o2 o' k0 k1 k2 k3 k4)
      go_roundw
      case rel =>
        obtain ⟨g2, rfl⟩ := HA2.out
        refine ⟨q + 1, g2, c2', done ++ ib, by omega, by rw [List.length_append], by go_num, O4, hide (by rw [hst.out, HIB.out, hD.out, List.append_assoc]), hide ?_⟩
        rw [List.length_append]; exact HR2.out
      case measure => simp [intOf]; omega
    · obtain rfl : q = n := by omega
      clear hqn hq
      go_wp2_with fail
      go_ret2
      have hr := hR.out
      have hd := hD.out
      subst hd
      exact ⟨hO.out, g, co, rfl, hr⟩
theorem put_good (A : Option Addr) (n c : Nat) (f : Nat → Ins) (w : World) (hA : InsAt w A n f) (hg : Good n f) : Calls Tryz.prog 14 #[.slice A n c] w (Put w (putB n f)) := by
  have CK := check_any A n c f w hA (by have := hg.len; unfold maxLen; omega)
  rw [hg.chk] at CK
  have CK := hide CK
  have WP := hide (fun W (o : Only [] w W) => wput_good A n c f W (hA.only0 o) hg)
  clear hA hg
  go_enter Tryz.func14, Tryz.ntmps14
  go_wp2_with (first
    | (go_at_call 7; (with_reducible refine CK.out.mono ?_); rintro e w1 ⟨rfl, o⟩; have O1 := hide o; clear o)
    | (go_at_call 46; (with_reducible refine (WP.out _ O1.out).mono ?_); intro e w2 hp; obtain ⟨o, g, c', rfl, r⟩ := hp; have R := hide (own_mono r O1.out.size); have O2 := hide (O1.out.trans0 o); clear o r))
  go_ret2
  exact ⟨O2.out, g, c', rfl, R.out⟩
theorem put_bad (A : Option Addr) (n c : Nat) (f : Nat → Ins) (w : World) (hA : InsAt w A n f) (hn : n ≤ maxLen) (hb : badP n f = true) : Calls Tryz.prog 14 #[.slice A n c] w fun e w' => e = .returned (.tuple #[.slice none 0 0, .int .i64 2]) ∧ Only [] w w' := by
  have CK := check_any A n c f w hA hn
  obtain ⟨x, hx⟩ := bad_chk hb
  rw [hx] at CK
  have CK := hide CK
  clear hA hx hb
  go_enter Tryz.func14, Tryz.ntmps14
  go_wp2_with (go_at_call 7; (with_reducible refine CK.out.mono ?_); rintro e w1 ⟨rfl, o⟩; have O2 := hide o; clear o)
  go_ret2
  exact ⟨rfl, O2.out⟩
set_option maxHeartbeats 16000000 in
theorem rput_good (A : Option Addr) (n c : Nat) (f : Nat → Ins) (w : World) (hA : InsAt w A n f) (hg : Good n f) : Calls Tryz.prog 19 #[.slice A n c] w (Fresh w (putB n f)) := by
  have hn := hg.len
  have HA := hide hA
  have HG := hide hg
  have wn : IntKind.u64.wrap (n : Int) = (n : Int) := by rw [IntKind.wrap_u64]; omega
  have NB := hide (fun W => rnumber_any n (by omega) W)
  have h10 := numF_len10 n (by omega)
  clear hA hg
  go_enter Tryz.func19, Tryz.ntmps19
  go_wp2_with (go_at_call 53; (with_reducible refine (NB.out _).mono ?_); intro e w1 hfr; obtain ⟨o', g1, c1, rfl, r1⟩ := hfr; have R1 := hide r1; have O1 := hide o'; clear r1 o')
  go_loopw [3, 4] (fun v6 v17 wr => ∃ (q g co : Nat) (done : List UInt8), q ≤ n ∧ v6 = .slice (some ⟨g, 0, none⟩) done.length co ∧ v17 = .int .i64 q ∧ Hid (Only [] w wr) ∧ Hid (done = numF n ++ bodyB f q) ∧ Hid (wr.ownsRow w.heap.size 5 1 (.slice (some ⟨g, 0, none⟩) done.length co) done.length (U8s done))) (fun _ v17 _ => n - (intOf v17).toNat)
  case atStart => exact ⟨0, g1, c1, numF n, by omega, rfl, rfl, O1, hide (by simp [bodyB]), R1⟩
  case round =>
    clear R1 O1 NB
    obtain ⟨q, g, co, done, hq, rfl, rfl, hO, hD, hR⟩ := hrel
    by_cases hqn : q < n
    · obtain ⟨ad, rfl, e0, e1, e2, e3, e4⟩ := HA.out q hqn
      have c0 := hO.out.keep0 e0
      have c1 := hO.out.keep0 e1
      have c2 := hO.out.keep0 e2
      have c3 := hO.out.keep0 e3
      have c4 := hO.out.keep0 e4
      have j0 : (0 : Int) ≤ (q : Int) := by omega
      have j1 : (q : Int) < (n : Int) := by omega
      have him := HG.out.imm q hqn
      have hst := hide (show bodyB f (q + 1) = bodyB f q ++ insB (f q) from rfl)
      have hbl := bodyB_len HG.out (q + 1) (by omega)
      rw [hst.out, List.length_append] at hbl
      have hdl : done.length ≤ 10 + (bodyB f q).length := by rw [hD.out, List.length_append]; omega
      have hbl2 : done.length + (insB (f q)).length ≤ 100000 := by omega
      obtain ⟨o, d, a, b, ho, hd, ha, hb, hi⟩ := nats_of (HG.out.may256 hqn)
      obtain ⟨m, him'⟩ : ∃ m, (f q).imm = m := ⟨_, rfl⟩
      rw [him'] at hi him
      have hib : insB (f q) = numF o ++ (numF d ++ (numF a ++ (numF b ++ numF (zig m)))) := by rw [hi]; rfl
      rw [hi] at c0 c1 c2 c3 c4
      simp only at c0 c1 c2 c3 c4
      rw [hib] at hbl2
      have NB1 := hide (fun W => rnumber_any o (by omega) W)
      have NB2 := hide (fun W => rnumber_any d (by omega) W)
      have NB3 := hide (fun W => rnumber_any a (by omega) W)
      have NB4 := hide (fun W => rnumber_any b (by omega) W)
      have SB5 := hide (fun W => rsigned_any m him.1 him.2 W)
      have w1 : IntKind.u64.wrap (o : Int) = (o : Int) := by rw [IntKind.wrap_u64]; omega
      have w2 : IntKind.u64.wrap (d : Int) = (d : Int) := by rw [IntKind.wrap_u64]; omega
      have w3 : IntKind.u64.wrap (a : Int) = (a : Int) := by rw [IntKind.wrap_u64]; omega
      have w4 : IntKind.u64.wrap (b : Int) = (b : Int) := by rw [IntKind.wrap_u64]; omega
      have HIB := hide hib
      obtain ⟨l1, hl1⟩ : ∃ x, numF o = x := ⟨_, rfl⟩
      obtain ⟨l2, hl2⟩ : ∃ x, numF d = x := ⟨_, rfl⟩
      obtain ⟨l3, hl3⟩ : ∃ x, numF a = x := ⟨_, rfl⟩
      obtain ⟨l4, hl4⟩ : ∃ x, numF b = x := ⟨_, rfl⟩
      obtain ⟨l5, hl5⟩ : ∃ x, numF (zig m) = x := ⟨_, rfl⟩
      rw [hl1] at NB1
      rw [hl2] at NB2
      rw [hl3] at NB3
      rw [hl4] at NB4
      rw [hl5] at SB5
      rw [hl1, hl2, hl3, hl4, hl5] at HIB hbl2
      simp only [List.length_append] at hbl2
      have HBL := hide hbl2
      have nb := Blk.new wr 25 #[.int .i64 (o : Int), .int .i64 (d : Int), .int .i64 (a : Int), .int .i64 (b : Int), .int .i64 m]
      have oA := (Only.refl [] wr).alloc (.cells #[.int .i64 (o : Int), .int .i64 (d : Int), .int .i64 (a : Int), .int .i64 (b : Int), .int .i64 m] 25)
      have O0 := hide (hO.out.trans0 oA)
      have R0 := hide (own_only' hR.out oA (by simp))
      have K0 := hide nb
      have k0 := nb.cell 0
      have HD0 := hide (rfl : done.length = done.length)
      clear e0 e1 e2 e3 e4 him hbl hbl2 hdl hib hi hl1 hl2 hl3 hl4 hl5 him' ho hd ha hb nb hR hO oA
      go_wp2_with (first
        | (go_at_call 53; (with_reducible refine (NB1.out _).mono ?_); intro e v1 hfr; obtain ⟨o', gg1, cc1, rfl, r'⟩ := hfr; obtain ⟨A2, C1, W1, hrun1, hrow2, o2, hk, hA2⟩ := run_app_src w.heap.size (some ⟨g, 0, none⟩) done.length co done _ _ cc1 l1 v1 (own_only' R0.out o' (by simp)) rfl (Src.own r') (by have := HBL.out; omega) (O0.out.trans0 o').size; obtain ⟨G1, rfl⟩ := hA2 (by simp); have R1 := hide hrow2; have O1 := hide ((O0.out.trans0 o').trans o2 (fun x hx => .inr (own_ge R0.out x hx).1)); have K1 := hide ((K0.out.only o' (by simp)).only o2 (fun hx => own_ne (own_only' R0.out o' (by simp)) (K0.out.only o' (by simp)) (by decide) hx)); have k1 := K1.out.cell 1; clear hrow2 hA2 hk o2 o' r')
        | (go_at_call 53; (with_reducible refine (NB2.out _).mono ?_); intro e v2 hfr; obtain ⟨o', gg2, cc2, rfl, r'⟩ := hfr; obtain ⟨A2, C2, W2, hrun2, hrow2, o2, hk, hA2⟩ := run_app_src w.heap.size (some ⟨G1, 0, none⟩) (done.length + l1.length) C1 (done ++ l1) _ _ cc2 l2 v2 (own_only' R1.out o' (by simp)) rfl (Src.own r') (by have := HBL.out; omega) (O1.out.trans0 o').size; obtain ⟨G2, rfl⟩ := hA2 (by simp); have R2 := hide hrow2; have O2 := hide ((O1.out.trans0 o').trans o2 (fun x hx => .inr (own_ge R1.out x hx).1)); have K2 := hide ((K1.out.only o' (by simp)).only o2 (fun hx => own_ne (own_only' R1.out o' (by simp)) (K1.out.only o' (by simp)) (by decide) hx)); have k2 := K2.out.cell 2; clear hrow2 hA2 hk o2 o' r')
        | (go_at_call 53; (with_reducible refine (NB3.out _).mono ?_); intro e v3 hfr; obtain ⟨o', gg3, cc3, rfl, r'⟩ := hfr; obtain ⟨A2, C3, W3, hrun3, hrow2, o2, hk, hA2⟩ := run_app_src w.heap.size (some ⟨G2, 0, none⟩) ((done.length + l1.length) + l2.length) C2 ((done ++ l1) ++ l2) _ _ cc3 l3 v3 (own_only' R2.out o' (by simp)) rfl (Src.own r') (by have := HBL.out; omega) (O2.out.trans0 o').size; obtain ⟨G3, rfl⟩ := hA2 (by simp); have R3 := hide hrow2; have O3 := hide ((O2.out.trans0 o').trans o2 (fun x hx => .inr (own_ge R2.out x hx).1)); have K3 := hide ((K2.out.only o' (by simp)).only o2 (fun hx => own_ne (own_only' R2.out o' (by simp)) (K2.out.only o' (by simp)) (by decide) hx)); have k3 := K3.out.cell 3; clear hrow2 hA2 hk o2 o' r')
        | (go_at_call 53; (with_reducible refine (NB4.out _).mono ?_); intro e v4 hfr; obtain ⟨o', gg4, cc4, rfl, r'⟩ := hfr; obtain ⟨A2, C4, W4, hrun4, hrow2, o2, hk, hA2⟩ := run_app_src w.heap.size (some ⟨G3, 0, none⟩) (((done.length + l1.length) + l2.length) + l3.length) C3 (((done ++ l1) ++ l2) ++ l3) _ _ cc4 l4 v4 (own_only' R3.out o' (by simp)) rfl (Src.own r') (by have := HBL.out; omega) (O3.out.trans0 o').size; obtain ⟨G4, rfl⟩ := hA2 (by simp); have R4 := hide hrow2; have O4 := hide ((O3.out.trans0 o').trans o2 (fun x hx => .inr (own_ge R3.out x hx).1)); have K4 := hide ((K3.out.only o' (by simp)).only o2 (fun hx => own_ne (own_only' R3.out o' (by simp)) (K3.out.only o' (by simp)) (by decide) hx)); have k4 := K4.out.cell 4; clear hrow2 hA2 hk o2 o' r')
        | (go_at_call 54; (with_reducible refine (SB5.out _).mono ?_); intro e v5 hfr; obtain ⟨o', gg5, cc5, rfl, r'⟩ := hfr; obtain ⟨A2, C5, W5, hrun5, hrow2, o2, hk, hA2⟩ := run_app_src w.heap.size (some ⟨G4, 0, none⟩) ((((done.length + l1.length) + l2.length) + l3.length) + l4.length) C4 ((((done ++ l1) ++ l2) ++ l3) ++ l4) _ _ cc5 l5 v5 (own_only' R4.out o' (by simp)) rfl (Src.own r') (by have := HBL.out; omega) (O4.out.trans0 o').size; obtain ⟨G5, rfl⟩ := hA2 (by simp); have R5 := hide hrow2; have O5 := hide ((O4.out.trans0 o').trans o2 (fun x hx => .inr (own_ge R4.out x hx).1)); have K5 := hide ((K4.out.only o' (by simp)).only o2 (fun hx => own_ne (own_only' R4.out o' (by simp)) (K4.out.only o' (by simp)) (by decide) hx)); clear hrow2 hA2 hk o2 o' r'))
      go_roundw
      case rel =>
        refine ⟨q + 1, G5, C5, (((((done ++ l1) ++ l2) ++ l3) ++ l4) ++ l5), by omega, by simp only [List.length_append], by go_num, O5, hide (by rw [hst.out, HIB.out, hD.out]; simp only [List.append_assoc]), hide ?_⟩
        simp only [List.length_append]; exact R5.out
      case measure => simp [intOf]; omega
    · obtain rfl : q = n := by omega
      clear hqn hq
      go_wp2_with fail
      go_ret
      have hr := hR.out
      have hd := hD.out
      subst hd
      exact ⟨hO.out, g, co, rfl, hr⟩
end Go.Proofs.YtmaljajdmgkakaaGreatDoor
