/- WireBack: the law returns true whatever the input. No condition. -/
import Derived.Test.YtdaeaepfbnlaeaaWi8
import Derived.Deep.RegionHeld3
namespace Go.Proofs.Ytdaeaepfbnlaeaa
open Go.RowKit
set_option linter.unusedVariables false
set_option linter.all false
set_option maxRecDepth 20000

theorem back_chain (N : Nat) (S : Int) (F : Bool) (tds : List UInt8) (hN : N < 2 ^ 64) (s0 : -9223372036854775808 ≤ S) (s1 : S ≤ 9223372036854775807) (ht : tds.length < 2 ^ 64) (q1 q2 q3 q4 q : List UInt8) (h1 : numF N = q1) (h2 : numF (zig S) = q2)
    (h3 : numF tds.length ++ tds = q3) (h4 : [if F then (1 : UInt8) else 0] = q4) (h : [q1, q2, q3, q4].flatten = q) :
    resN (q.drop 0) = (N, 0, q1.length) ∧ resN (q.drop q1.length) = (zig S, 0, q2.length) ∧ resB tds.length (q.drop (q1.length + q2.length)) = (0, tds, q3.length) ∧ resF (q.drop (q1.length + q2.length + q3.length)) = (F, 0, 1) ∧ q.length = q1.length + q2.length + q3.length + 1 := by
  have e : q = q1 ++ (q2 ++ (q3 ++ q4)) := by rw [← h]; simp
  subst e
  have hz := zig_lt S s0 s1
  refine ⟨?_, ?_, ?_, ?_, ?_⟩
  · rw [List.drop_zero, ← h1, resN_back N hN]
  · rw [List.drop_left, ← h2, resN_back _ hz]
  · rw [← List.drop_drop, List.drop_left, List.drop_left, ← h3, List.append_assoc, resB_back tds _ ht _ (Int.le_refl _), List.length_append]
  · rw [← List.drop_drop, ← List.drop_drop, List.drop_left, List.drop_left, List.drop_left, ← h4]
    cases F <;> rfl
  · rw [← h4]
    simp only [List.length_append, List.length_singleton]
    omega

theorem pcs4 {w : World} {g1 g2 g3 g4 c1 c2 c3 c4 : Nat} {l1 l2 l3 l4 : List UInt8} (h1 : Src w (some ⟨g1, 0, none⟩) l1) (h2 : Src w (some ⟨g2, 0, none⟩) l2) (h3 : Src w (some ⟨g3, 0, none⟩) l3) (h4 : Src w (some ⟨g4, 0, none⟩) l4) :
    Pcs (w.alloc (.cells #[.slice (some ⟨g1, 0, none⟩) l1.length c1, .slice (some ⟨g2, 0, none⟩) l2.length c2, .slice (some ⟨g3, 0, none⟩) l3.length c3, .slice (some ⟨g4, 0, none⟩) l4.length c4] 23)) (some ⟨w.heap.size, 0, none⟩) [l1, l2, l3, l4] := by
  intro j ds hj
  have hb := Blk.new w 23 #[.slice (some ⟨g1, 0, none⟩) l1.length c1, .slice (some ⟨g2, 0, none⟩) l2.length c2, .slice (some ⟨g3, 0, none⟩) l3.length c3, .slice (some ⟨g4, 0, none⟩) l4.length c4]
  rcases j with _ | _ | _ | _ | j
  · obtain rfl : l1 = ds := by simpa using hj
    exact ⟨_, some ⟨g1, 0, none⟩, c1, rfl, by rw [add_mk]; exact hb.cell 0, h1.alloc _⟩
  · obtain rfl : l2 = ds := by simpa using hj
    exact ⟨_, some ⟨g2, 0, none⟩, c2, rfl, by rw [add_mk]; exact hb.cell 1, h2.alloc _⟩
  · obtain rfl : l3 = ds := by simpa using hj
    exact ⟨_, some ⟨g3, 0, none⟩, c3, rfl, by rw [add_mk]; exact hb.cell 2, h3.alloc _⟩
  · obtain rfl : l4 = ds := by simpa using hj
    exact ⟨_, some ⟨g4, 0, none⟩, c4, rfl, by rw [add_mk]; exact hb.cell 3, h4.alloc _⟩
  · simp at hj

theorem resB_bad (most : Int) (l : List UInt8) (h0 : 0 ≤ most) (he : ¬ (resB most l).1 = 0) : 2 < (resB most l).1 ∧ (resB most l).2.2 = 0 ∧ (resB most l).2.1 = [] := by
  have hc := resC_facts most l
  unfold resB at *
  by_cases h1 : (resC most l).2.1 = 0
  · simp only [if_pos h1] at he ⊢
    by_cases h2 : ((l.length - (resC most l).2.2 : Nat) : Int) < (resC most l).1
    · simp only [if_pos h2]
      exact ⟨by decide, trivial, trivial⟩
    · simp only [if_neg h2] at he
      exact absurd trivial he
  · simp only [if_neg h1]
    have : ¬ (resC most l).2.1 = 2 := by
      intro h2
      unfold resC at h2
      rw [if_neg (by omega)] at h2
      by_cases h3 : (resN l).2.1 = 0
      · simp only [if_pos h3] at h2
        by_cases h4 : most < ((resN l).1 : Int)
        · simp only [if_pos h4] at h2; exact absurd h2 (by decide)
        · simp only [if_neg h4] at h2; exact absurd h2 (by decide)
      · simp only [if_neg h3] at h2
        rcases resN_err l with h4 | h4
        · exact h3 h4
        · rw [h4] at h2; exact absurd h2 (by decide)
    exact ⟨by have := hc.2.2.2; omega, trivial, trivial⟩

set_option maxHeartbeats 4000000 in
theorem back_any (N : Nat) (S : Int) (F : Bool) (tA : Option Addr) (tc : Nat) (tds : List UInt8) (bA : Option Addr) (bn bc : Nat) (bs : List UInt8) (w : World) (hN : N < 2 ^ 64) (s0 : -9223372036854775808 ≤ S) (s1 : S ≤ 9223372036854775807)
    (htl : tds.length ≤ 140737488351232) (hts : Src w tA tds) (hbl : bs.length = bn) (hbm : bn ≤ 140737488351232) (hbs : Src w bA bs) (hbc : bn ≤ bc) :
    Calls Try.prog 4 #[.agg #[.int .u64 N, .int .i64 S, .bool F, .slice tA tds.length tc], .slice bA bn bc] w fun e w' => e = .returned (.bool true) ∧ Only [] w w' := by
  have hbx := Blk.new w 25 #[.int .u64 N, .int .i64 S, .bool F, .slice tA tds.length tc]
  have o0 := (Only.refl [] w).alloc (.cells #[.int .u64 N, .int .i64 S, .bool F, .slice tA tds.length tc] 25)
  generalize hwb : w.alloc (.cells #[.int .u64 N, .int .i64 S, .bool F, .slice tA tds.length tc] 25) = wb at hbx o0
  have k0 : wb.cell? ⟨w.heap.size, 0, none⟩ = some (.int .u64 N) := by simpa using hbx.cell 0
  have k1 : wb.cell? ⟨w.heap.size, 1, none⟩ = some (.int .i64 S) := by simpa using hbx.cell 1
  have k2 : wb.cell? ⟨w.heap.size, 2, none⟩ = some (.bool F) := by simpa using hbx.cell 2
  have k3 : wb.cell? ⟨w.heap.size, 3, none⟩ = some (.slice tA tds.length tc) := by simpa using hbx.cell 3
  obtain ⟨q1, hq1⟩ : ∃ q, Hid (numF N = q) := ⟨_, hide rfl⟩
  obtain ⟨q2, hq2⟩ : ∃ q, Hid (numF (zig S) = q) := ⟨_, hide rfl⟩
  obtain ⟨q3, hq3⟩ : ∃ q, Hid (numF tds.length ++ tds = q) := ⟨_, hide rfl⟩
  obtain ⟨q4, hq4⟩ : ∃ q, Hid ([if F then (1 : UInt8) else 0] = q) := ⟨_, hide rfl⟩
  obtain ⟨q, hq⟩ : ∃ q, Hid ([q1, q2, q3, q4].flatten = q) := ⟨_, hide rfl⟩
  have hz := zig_lt S s0 s1
  have l1 : q1.length ≤ 10 := by rw [← hq1.out]; exact numF_len10 N hN
  have l2 : q2.length ≤ 10 := by rw [← hq2.out]; exact numF_len10 _ hz
  have l3 : q3.length ≤ 10 + tds.length := by rw [← hq3.out, List.length_append]; have := numF_len10 tds.length (by omega); omega
  have l4 : q4.length = 1 := by rw [← hq4.out]; rfl
  obtain ⟨e1, e2, e3, e4, e5⟩ := back_chain N S F tds hN s0 s1 (by omega) q1 q2 q3 q4 q hq1.out hq2.out hq3.out hq4.out hq.out
  have hlen : q.length ≤ 140737488351300 := by omega
  have hc1 := fun W => number_any N hN W
  have hc2 := fun W => signed_any S s0 s1 W
  have hc3 := fun W h => bytes_any tA tds.length tc tds W rfl htl h
  have hc4 := fun W => flag_any F W
  rw [hq1.out] at hc1
  rw [hq2.out] at hc2
  rw [hq3.out] at hc3
  rw [hq4.out] at hc4
  have C1 := hide hc1
  have C2 := hide hc2
  have C3 := hide hc3
  have C4 := hide hc4
  have E1 := hide e1
  have E2 := hide e2
  have E3 := hide e3
  have E4 := hide e4
  have E5 := hide e5
  have HT := hide hts
  have HBS := hide hbs
  have HBX := hide hbx
  have O0 := hide o0
  have HBL := hide hbl
  have L4 := hide l4
  clear hc1 hc2 hc3 hc4 e1 e2 e3 e4 e5 hts hbs hbx o0 hbl l4
  subst hwb
  go_enter Try.func4, Try.ntmps4
  go_wp2_with fail
  go_region_held3 (fun W => W.cell? ⟨w.heap.size, 0, none⟩ = some (.int .u64 N) ∧ W.cell? ⟨w.heap.size, 1, none⟩ = some (.int .i64 S) ∧ W.cell? ⟨w.heap.size, 2, none⟩ = some (.bool F) ∧ W.cell? ⟨w.heap.size, 3, none⟩ = some (.slice tA tds.length tc)) (first | go_keep | exact ⟨k0, k1, k2, k3⟩ | exact ⟨cell_alloc _ k0, cell_alloc _ k1, cell_alloc _ k2, cell_alloc _ k3⟩) (first
    | (go_at_call 9; refine (C1.out _).mono ?_; rintro e w1 ⟨o1, g1, c1, rfl, r1⟩; have a1 := (O0.out.drew).trans0 o1; have b1 := HBX.out.drew; have hb := b1.only o1 (by simp); have k0 : w1.cell? ⟨w.heap.size, 0, none⟩ = some (.int .u64 N) := (by simpa using hb.cell 0); have k1 : w1.cell? ⟨w.heap.size, 1, none⟩ = some (.int .i64 S) := (by simpa using hb.cell 1); have k2 : w1.cell? ⟨w.heap.size, 2, none⟩ = some (.bool F) := (by simpa using hb.cell 2); have k3 : w1.cell? ⟨w.heap.size, 3, none⟩ = some (.slice tA tds.length tc) := (by simpa using hb.cell 3))
    | (go_at_call 13; refine (C2.out _).mono ?_; rintro e w2 ⟨o2, g2, c2, rfl, r2⟩; have a2 := a1.trans0 o2; have k0 := o2.keep0 k0; have k1 := o2.keep0 k1; have k2 := o2.keep0 k2; have k3 := o2.keep0 k3)
    | (go_at_call 8; refine (C3.out _ (HT.out.only0 a2)).mono ?_; rintro e w3 ⟨o3, g3, c3, rfl, r3⟩; have a3 := a2.trans0 o3; have k0 := o3.keep0 k0; have k1 := o3.keep0 k1; have k2 := o3.keep0 k2; have k3 := o3.keep0 k3)
    | (go_at_call 15; refine (C4.out _).mono ?_; rintro e w4 ⟨o4, g4, c4, rfl, r4⟩; have a4 := a3.trans0 o4; have k0 := o4.keep0 k0; have k1 := o4.keep0 k1; have k2 := o4.keep0 k2; have k3 := o4.keep0 k3)
    | (go_at_call 10; refine (join_any _ 4 4 [q1, q2, q3, q4] _ rfl (by omega) (pcs4 ((Src.own r1).only0 ((o2.trans0 o3).trans0 o4)) ((Src.own r2).only0 (o3.trans0 o4)) ((Src.own r3).only0 o4) (Src.own r4)) (by rw [hq.out]; omega)).mono ?_; rw [hq.out]; rintro e w5 ⟨o5, g5, c5, rfl, r5⟩; have o45 := ((Only.refl [] w4).alloc _).trans0 o5; have a5 := a4.trans0 o45; have k0 := o45.keep0 k0; have k1 := o45.keep0 k1; have k2 := o45.keep0 k2; have k3 := o45.keep0 k3))
  have hs5 := Src.own r5
  have hsz5 := a5.size
  have hbl5 : w.heap.size < w5.heap.size := World.block_lt_of_cell? _ _ k0
  clear r1 r2 r3 r4 r5 o45 o4 o3 o2 o1 a1 a2 a3 a4 hb b1
  go_wp2_with fail
  refine (open_any _ q.length c5 q _ rfl hlen hs5).mono ?_
  rintro e w6 ⟨o6, g, gb, cap, rfl, hR, hg, hgb⟩
  have a6 := a5.trans0 o6
  replace k0 := o6.keep0 k0
  replace k1 := o6.keep0 k1
  replace k2 := o6.keep0 k2
  replace k3 := o6.keep0 k3
  have hgw : w.heap.size ≤ g := by omega
  have hgk : w.heap.size ≠ g := by omega
  clear hs5 o6 a5
  go_wp2_with fail
  have hn := rdnumber_any hR
  unfold NumRead at hn
  rw [E1.out] at hn
  refine hn.mono ?_
  rintro e w7 ⟨rfl, o7, hR7⟩
  replace hR : Rd w7 g gb cap q q1.length := by simpa using hR7
  have a7 : Only [] w w7 := a6.trans o7 (fun x hx => .inr (by simp at hx; omega))
  replace k0 := o7.keep k0 (by simpa using hgk)
  replace k1 := o7.keep k1 (by simpa using hgk)
  replace k2 := o7.keep k2 (by simpa using hgk)
  replace k3 := o7.keep k3 (by simpa using hgk)
  clear hR7 hn o7 a6
  go_wp2_with fail
  have hn := rdsigned_any hR
  unfold SigRead at hn
  rw [E2.out, unzig_zig] at hn
  refine hn.mono ?_
  rintro e w8 ⟨rfl, o8, hR8⟩
  replace hR : Rd w8 g gb cap q (q1.length + q2.length) := hR8
  have a8 : Only [] w w8 := a7.trans o8 (fun x hx => .inr (by simp at hx; omega))
  replace k0 := o8.keep k0 (by simpa using hgk)
  replace k1 := o8.keep k1 (by simpa using hgk)
  replace k2 := o8.keep k2 (by simpa using hgk)
  replace k3 := o8.keep k3 (by simpa using hgk)
  clear hR8 hn o8 a7
  go_wp2_with fail
  have hn := rdbytes_any (tds.length : Int) (by omega) hR
  have hgl8 := hR.lt.1
  rw [E3.out] at hn
  refine hn.mono ?_
  rintro e w9 ⟨o9, hR9, A9, c9, rfl, hrow9⟩
  replace hR : Rd w9 g gb cap q (q1.length + q2.length + q3.length) := hR9
  have a9 : Only [] w w9 := a8.trans o9 (fun x hx => .inr (by simp at hx; omega))
  replace k0 := o9.keep k0 (by simpa using hgk)
  replace k1 := o9.keep k1 (by simpa using hgk)
  replace k2 := o9.keep k2 (by simpa using hgk)
  replace k3 := o9.keep k3 (by simpa using hgk)
  have hs9 := Src.own hrow9
  have hA9 : ∀ x ∈ blkOf A9, x ≠ g := fun x hx e => by
    have h1 := (own_ge hrow9 x hx).1
    omega
  clear hR9 hn o9 a8 hrow9
  go_wp2_with fail
  have hn := rdflag_any hR
  unfold FlagRead at hn
  rw [E4.out] at hn
  refine hn.mono ?_
  rintro e w10 ⟨rfl, o10, hR10⟩
  replace hR : Rd w10 g gb cap q (q1.length + q2.length + q3.length + 1) := hR10
  have a10 : Only [] w w10 := a9.trans o10 (fun x hx => .inr (by simp at hx; omega))
  replace k0 := o10.keep k0 (by simpa using hgk)
  replace k1 := o10.keep k1 (by simpa using hgk)
  replace k2 := o10.keep k2 (by simpa using hgk)
  replace k3 := o10.keep k3 (by simpa using hgk)
  have hy := run_str_any A9 tds.length c9 tds w10 rfl (hs9.only o10 (fun ad had _ => by simpa using hA9 ad.block (by simp [had, blkOf])))
  have hx := run_str_any tA tds.length tc tds w10 rfl (HT.out.only0 a10)
  have hend := end_any hR
  rw [if_pos (by rw [E5.out]; exact Nat.le_refl _)] at hend
  clear hR10 hn o10 a9 hs9 hA9
  go_wp2_with (first
    | (go_at_call 24; refine (num_any _ _).mono ?_; rintro e w' ⟨rfl, rfl⟩)
    | (go_at_call 25; refine hend.mono ?_; rintro e w' ⟨rfl, ke, rfl⟩))
  have a11 := a10.drewN ke
  clear hy hx hend hR k0 k1 k2 k3 a10
  generalize w10.drewN ke = w11 at a11 ⊢
  refine (open_any bA bn bc bs w11 HBL.out (by omega) (HBS.out.only0 a11)).mono ?_
  rintro e w12 ⟨o12, g', gb', cap', rfl, hR, hg', hgb'⟩
  have a12 := a11.trans0 o12
  have hsz11 := a11.size
  clear o12
  go_wp2_with fail
  have hn := rdbytes_any (bn : Int) (by omega) hR
  have hgl12 := hR.lt
  rw [List.drop_zero] at hn
  by_cases he : (resB (bn : Int) bs).1 = 0
  · obtain ⟨d1, d2, d3, d4⟩ := resB_canon bs (bn : Int) (by omega) he
    rw [he] at hn
    generalize (resB (bn : Int) bs).2.1 = ds at hn d1 d2 d4
    generalize (resB (bn : Int) bs).2.2 = k at hn d1 d2 d3
    have hsh := resB_short ds (by omega) (bn : Int) d4
    obtain ⟨s, hs⟩ : ∃ s, numF ds.length ++ ds = s := ⟨_, rfl⟩
    rw [hs] at d1 d2 hsh
    have hpos : 0 < s.length := by rw [← hs, List.length_append]; have := numF_pos ds.length; omega
    obtain ⟨k1, rfl⟩ : ∃ k1, k = k1 + 1 := ⟨k - 1, by omega⟩
    rw [HBL.out] at d3
    have HSL := hide d1
    have HSP := hide d2
    have HSH := hide hsh
    have HS := hide hs
    have hdl : ds.length ≤ bn := by omega
    clear d1 d2 hsh hs hpos d4
    refine hn.mono ?_
    rintro e w13 ⟨o13, hR13, A, c, rfl, hrow⟩
    replace hR : Rd w13 g' gb' cap' bs (k1 + 1) := by simpa using hR13
    have a13 : Only [] w w13 := a12.trans o13 (fun x hx => .inr (by simp at hx; omega))
    have hsA := Src.own hrow
    clear hR13 hn o13 a12 hrow
    go_wp2_with (go_at_call 24; refine (num_any _ _).mono ?_; rintro e w' ⟨rfl, rfl⟩)
    have hby := bytes_any A ds.length c ds w13 rfl (by omega) hsA
    rw [HS.out] at hby
    refine hby.mono ?_
    rintro e w14 ⟨o14, gs, cs, rfl, hrow⟩
    replace hR := hR.only0 o14
    have a14 := a13.trans0 o14
    have hss := Src.own hrow
    have hcs := (own_cap hrow).1
    rw [← HSL.out] at hcs ⊢
    have hbb : Src w14 bA (bs.take (k1 + 1)) := fun hp => by
      obtain ⟨ad, he, hc⟩ := (HBS.out.only0 a14) (by simp at hp; omega)
      refine ⟨ad, he, fun j u hj => hc j u ?_⟩
      have hjl : j < (U8s (bs.take (k1 + 1))).length := (List.getElem?_eq_some_iff.1 hj).1
      rw [length_U8s, List.length_take] at hjl
      rw [← hj, U8s_get, U8s_get, List.getElem?_take_of_lt (by omega)]
    have hst : Src w14 (some ⟨gs, 0, none⟩) (s.take k1) := fun hp => by
      obtain ⟨ad, he, hc⟩ := hss (by simp at hp; omega)
      refine ⟨ad, he, fun j u hj => hc j u ?_⟩
      have hjl : j < (U8s (s.take k1)).length := (List.getElem?_eq_some_iff.1 hj).1
      rw [length_U8s, List.length_take] at hjl
      rw [← hj, U8s_get, U8s_get, List.getElem?_take_of_lt (by omega)]
    have e1 := fun n => run_str_any (some ⟨gs, 0, none⟩) (k1 + 1) cs s (w14.drewN n) HSL.out.symm (hss.drewN n)
    have e2 := fun n => run_str_any bA (k1 + 1) bc (bs.take (k1 + 1)) (w14.drewN n) (by rw [List.length_take, HBL.out]; omega) (hbb.drewN n)
    rw [HSP.out] at e2
    have hlf := fun n => left_any (hR.only0 ((Only.refl [] _).drewN n))
    rw [HBL.out] at hlf
    have x0 : (0 : Int) ≤ ((k1 + 1 : Nat) : Int) := by omega
    have x1 : ((k1 + 1 : Nat) : Int) ≤ (bc : Int) := by omega
    obtain ⟨lv, hlv⟩ : ∃ lv : Int, ((bn - (k1 + 1) : Nat) : Int) = lv := ⟨_, rfl⟩
    simp only [hlv] at hlf
    have x2 : (((k1 + 1 : Nat) : Int) != (bn : Int) - lv) = false := by simp; omega
    have x3 : ((k1 : Int) + 1 != (bn : Int) - lv) = false := by simp; omega
    have x4 : lv ≤ 140737488351232 := by omega
    have x5 : 0 ≤ lv := by omega
    have HLV := hide hlv
    clear hlv
    clear hby hbb hss hrow o14 a13 hsA
    go_wp2_with fail
    go_quiet ((go_at_call 26; exact quiet_some (hlf _)))
    have a15 := a14.drewN nq
    replace hst := hst.drewN nq
    clear e1 e2 hlf hR a14 x2 x3
    generalize w14.drewN nq = w15 at a15 hst ⊢
    have y0 : (0 : Int) ≤ (k1 : Int) := by omega
    have y1 : (k1 : Int) ≤ (cs : Int) := by omega
    go_wp2_with fail
    refine (open_any (some ⟨gs, 0, none⟩) k1 cs (s.take k1) w15 (by rw [List.length_take, ← HSL.out]; omega) (by omega) hst).mono ?_
    rintro e w16 ⟨o16, g2', gb2', cap2', rfl, hR, hg2', hgb2'⟩
    have a16 := a15.trans0 o16
    have hsz15 := a15.size
    clear o16 hst
    go_wp2_with fail
    have hn := rdbytes_any (bn : Int) (by omega) hR
    have hsh := HSH.out
    rw [← HSL.out, Nat.add_sub_cancel] at hsh
    rw [List.drop_zero, hsh] at hn
    generalize (resB (bn : Int) (s.take k1)).2.1 = ds9 at hn
    generalize (resB (bn : Int) (s.take k1)).2.2 = k9 at hn
    clear hsh
    refine hn.mono ?_
    rintro e w17 ⟨o17, hR17, A17, c17, rfl, hrow17⟩
    have a17 : Only [] w w17 := a16.trans o17 (fun x hx => .inr (by simp at hx; omega))
    clear hn hR17 hrow17 hR o17
    go_wp2_with (first
      | (go_at_call 24; refine (num_any _ _).mono ?_; rintro e w' ⟨rfl, rfl⟩)
      | (go_at_call 18; refine (known_any _).mono ?_; rintro e w18 ⟨rfl, o18⟩))
    go_ret
    exact ⟨rfl, a17.trans0 o18⟩
  · obtain ⟨b1, b2, b3⟩ := resB_bad (bn : Int) bs (by omega) he
    rw [b2, b3] at hn
    generalize (resB (bn : Int) bs).1 = er at hn b1 he
    clear b2 b3
    refine hn.mono ?_
    rintro e w13 ⟨o13, hR13, A, c, rfl, hrow⟩
    replace hR : Rd w13 g' gb' cap' bs 0 := hR13
    have a13 : Only [] w w13 := a12.trans o13 (fun x hx => .inr (by simp at hx; omega))
    have hl := left_any hR
    rw [show ((bs.length - 0 : Nat) : Int) = (bn : Int) from by rw [HBL.out, Nat.sub_zero]] at hl
    have he0 : (er == 0) = false := by simpa using he
    clear hR13 hn o13 a12 hrow he
    go_wp2_with (first
      | (go_at_call 24; refine (num_any _ _).mono ?_; rintro e w' ⟨rfl, rfl⟩)
      | (go_at_call 26; refine hl.mono ?_; rintro e w' ⟨rfl, kl, rfl⟩)
      | (go_at_call 18; refine (known_any _).mono ?_; rintro e w14 ⟨rfl, o14⟩))
    go_ret
    exact ⟨rfl, (a13.drewN kl).trans0 o14⟩
end Go.Proofs.Ytdaeaepfbnlaeaa

