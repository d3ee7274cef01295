/- WireLists: the walk. No condition but at most 349525 pairs. -/
import Derived.Test.YtdaeaepfbnlaeaaWi19
import Derived.ChangeKeysEq
import Derived.Deep.RegionHeld3
namespace Go.Proofs.Ytdaeaepfbnlaeaa
open Go.RowKit
set_option linter.unusedVariables false
set_option linter.all false
set_option maxRecDepth 20000
attribute [local go_sem ↓] app_hide

theorem eq22 (d : Nat) (x : Int) (w : World) : (Op.equalIn (d + 1) 22 (.int .u64 x) (.int .u64 x)).run Try.prog w = .ok true w := by
  simp [Op.equalIn, run_underlying Try.underlying22]
theorem eq51 (x y : Int) (w : World) : (Op.equal 51 (.agg #[.int .u64 x, .int .u64 y]) (.agg #[.int .u64 x, .int .u64 y])).run Try.prog w = .ok true w := by
  obtain ⟨i0, hi, hz0, hz1, hz2⟩ := info_parts u64_info
  have hC : Try.prog.cellsOf 22 = 1 := by kernel_rfl
  unfold Op.equal
  obtain ⟨d, hd⟩ : ∃ d, Op.maxDepth = d + 1 + 1 := ⟨Op.maxDepth - 2, rfl⟩
  rw [hd, run_equalIn_array (P := Try.prog) w (d + 1) _ _ Try.underlying51 hi, hC]
  simp [Op.eqItems, List.range, List.range.loop, hz1, part, eq22]
theorem ne51 (x y : Int) (w : World) : (binOp .neq 51 (.agg #[.int .u64 x, .int .u64 y]) (.agg #[.int .u64 x, .int .u64 y])).run Try.prog w = .ok (.bool false) w := by
  simp [binOp, eq51]

set_option maxHeartbeats 8000000 in
theorem lists_any (A : Option Addr) (n c : Nat) (L : List (Nat × Nat)) (cut : Int) (w : World) (hl : L.length = n) (hn : n ≤ 1048576) (hL : Prs w A L) (hS : Small L) (hc0 : -9223372036854775808 ≤ cut) (hc1 : cut ≤ 9223372036854775807) :
    Calls Try.prog 5 #[.slice A n c, .int .i64 cut] w fun e w' => e = .returned (.bool true) ∧ Only [] w w' := by
  obtain ⟨A1, c1, w1, gm, cm, w2, hr1, hr2, o2, hown⟩ := run_m A n c L w hl (by omega) hL
  have hLm := Prs.own hown hS
  have hcm := (own_cap hown)
  obtain ⟨gm', hgm', hmc, _⟩ := own_cell hown (by omega)
  obtain rfl : gm = gm' := by simpa using hgm'
  obtain ⟨m0, m1⟩ := u2s_get (L ++ [(7, 71)]) n (7, 71) (by rw [List.getElem?_append_right (by omega), hl, Nat.sub_self]; rfl)
  have q0 : w2.cell? ⟨gm, n * 2, none⟩ = some (.int .u64 7) := by rw [hmc _ (by omega)]; exact m0
  have q1 : w2.cell? ⟨gm, n * 2 + 1, none⟩ = some (.int .u64 71) := by rw [hmc _ (by omega)]; exact m1
  have sl0 : (0 : Int) ≤ (n : Int) := by omega
  have sl1 : (n : Int) ≤ (cm : Int) := by omega
  have sl2 : (n : Int) + 1 ≤ (cm : Int) := by omega
  have sl3 : (n : Int) < (n : Int) + 1 := by omega
  have HLM := hide hLm
  have HL := hide hL
  have HN := hide hl
  have HS := hide hS
  clear hLm hL hl hS hown hmc m0 m1 hgm'
  have hn7 := fun (W : World) => ne51 7 71 W
  go_enter Try.func5, Try.ntmps5
  go_wp2_with fail
  refine (put_any (some ⟨gm, 0, none⟩) n cm L w2 HN.out (by omega) HLM.out).mono ?_
  rintro e w3 ⟨o3, gb, cb, rfl, hrow⟩
  have a3 := o2.trans0 o3
  obtain ⟨B, hB⟩ : ∃ B, Hid (numF L.length ++ formsF L = B) := ⟨_, hide rfl⟩
  rw [hB.out] at hrow ⊢
  have hBl : B.length ≤ 10 + 20 * n := by
    have h1 := formsF_len HS.out
    have h2 := numF_len10 L.length (by have := HN.out; omega)
    rw [← hB.out, List.length_append]
    have := HN.out
    omega
  replace q0 := o3.keep0 q0
  replace q1 := o3.keep0 q1
  have hLm3 := hide (HLM.out.only0 o3)
  have hrowB := hide hrow
  clear hr1 hr2 o3 hrow
  go_wp2_with (go_at_call 24; refine (num_any _ _).mono ?_; rintro e w' ⟨rfl, rfl⟩)
  refine (rnumber_any n (by omega) w3).mono ?_
  rintro e w4 ⟨o4, gw, cw, rfl, hrow⟩
  have a4 := a3.trans0 o4
  have o43 := o4.size
  have hl10 := numF_len10 n (by omega)
  have hsB := hide (Src.own hrowB.out)
  have hgb3 := (own_ge hrowB.out gb (by simp [blkOf])).2
  have hcb := (own_cap hrowB.out).1
  have hO43 := o4
  obtain ⟨W0, hW0⟩ : ∃ W0, Hid (numF n = W0) := ⟨_, hide rfl⟩
  rw [hW0.out] at hrow hl10 ⊢
  have hrowW := hide hrow
  have hge3 := a3.size
  clear hrow o4 q0 q1 hrowB
  go_wp2_with fail
  go_loopw [8, 9] (fun vb vi wr => ∃ (j cd gd : Nat) (done : List UInt8), vb = .slice (some ⟨gd, 0, none⟩) done.length cd ∧ vi = .int .i64 (j : Int) ∧ j ≤ n ∧ Only [] w3 wr ∧ Hid (done = W0 ++ formsF (L.take j)) ∧ done.length ≤ 10 + j * 20 ∧ Hid (wr.ownsRow w3.heap.size 5 1 (.slice (some ⟨gd, 0, none⟩) done.length cd) done.length (U8s done))) (fun _ vi _ => n - (intOf vi).toNat)
  case atStart => exact ⟨0, cw, gw, W0, rfl, rfl, Nat.zero_le _, hO43, hide (by simp [formsF]), by omega, hrowW⟩
  case round =>
    obtain ⟨j, cd, gd, done, rfl, rfl, hj, hO, hDone, hdl, hrowD⟩ := hrel
    by_cases hlt : j < n
    · obtain ⟨⟨x, y⟩, hp⟩ : ∃ p, L[j]? = some p := ⟨_, List.getElem?_eq_getElem (by rw [HN.out]; exact hlt)⟩
      obtain ⟨hx, hy, a, rfl, c0, c1'⟩ := (HL.out.only0 (a3.trans0 hO)) j x y hp
      obtain ⟨_, _, am, ham, d0, d1⟩ := (hLm3.out.only0 hO) j x y hp
      obtain rfl : am = ⟨gm, 0, none⟩ := by simpa using ham.symm
      rw [add_mk, Nat.zero_add] at d0 d1
      have i0 : (0 : Int) ≤ (j : Int) := by omega
      have i1 : (j : Int) < (n : Int) := by omega
      have i2 : (j : Int) < (n : Int) + 1 := by omega
      have hne := fun (W : World) => ne51 x y W
      have hfl := formF_len hx hy
      have HFS := hide (formsF_take_succ L j (x, y) hp)
      obtain ⟨p1, hp1⟩ : ∃ q, Hid (numF x = q) := ⟨_, hide rfl⟩
      obtain ⟨p2, hp2⟩ : ∃ q, Hid (numF y = q) := ⟨_, hide rfl⟩
      have hfe : formF (x, y) = p1 ++ p2 := by unfold formF; rw [← hp1.out, ← hp2.out]
      rw [hfe, List.length_append] at hfl
      have HFE := hide hfe
      have hk1 := fun W => rnumber_any x hx W
      have hk2 := fun W => rnumber_any y hy W
      rw [hp1.out] at hk1
      rw [hp2.out] at hk2
      have C1 := hide hk1
      have C2 := hide hk2
      have hab : a.block < w.heap.size := by
        obtain ⟨_, _, a0, ha0, e0, _⟩ := HL.out j x y hp
        obtain rfl : a = a0 := by simpa using ha0
        have := World.block_lt_of_cell? w _ e0
        rwa [block_of_add] at this
      clear hp hfe hk1 hk2 ham
      go_wp2_with fail
      go_quiet (fail)
      go_wp2_with fail
      have hgd := (own_ge hrowD.out gd (by simp [blkOf])).1
      have hO1 := hO.drewN nq
      have hD0 := own_only' hrowD.out ((Only.refl [] _).drewN nq) (by simp)
      replace c0 : (wr.drewN nq).cell? (a.add (j * 2)) = some (.int .u64 (x : Int)) := c0
      replace c1' : (wr.drewN nq).cell? ⟨(a.add (j * 2)).block, (a.add (j * 2)).off + 1, none⟩ = some (.int .u64 (y : Int)) := c1'
      clear d0 d1 hrowD hO hne
      generalize wr.drewN nq = wv at hO1 hD0 c0 c1' ⊢
      have hgv := (own_ge hD0 gd (by simp [blkOf])).2
      have HD0 := hide hD0
      have mk1 : True := trivial
      have hsz43 : w3.heap.size ≤ wv.heap.size := hO1.size
      clear hD0
      go_region_held3 (fun W => W.cell? (a.add (j * 2)) = some (.int .u64 (x : Int)) ∧ W.cell? ⟨(a.add (j * 2)).block, (a.add (j * 2)).off + 1, none⟩ = some (.int .u64 (y : Int))) (first | go_keep | exact ⟨c0, c1'⟩ | exact ⟨ca0, ca1⟩ | exact ⟨cb0, cb1⟩ | exact ⟨cz0, cz1⟩) (first
        | (go_at_call 12; first
          | (clear mk1; refine (C1.out _).mono ?_; rintro e v1 ⟨o1, g1, e1, rfl, r1⟩; have b1 : Only [] wv v1 := ((Only.refl [] wv).drew).trans0 o1; have c0 := b1.keep0 c0; have c1' := b1.keep0 c1'; have hD1 := own_only' HD0.out b1 (by simp); have hb1s := b1.size; obtain ⟨AA, ca, va, hrunA, hrowA, oA, hkA, hAA⟩ := run_app_src w3.heap.size (some ⟨gd, 0, none⟩) done.length cd done (some ⟨g1, 0, none⟩) p1.length e1 p1 v1 hD1 rfl (Src.own r1) (by omega) (by omega); have ca0 := oA.keep c0 (by rw [block_of_add]; simp [blkOf]; omega); have ca1 := oA.keep c1' (by simp only [block_of_add]; simp [blkOf]; omega))
          | (refine (C2.out _).mono ?_; rintro e v2 ⟨o2', g2, e2, rfl, r2⟩; first
            | (have b2 : Only [] va v2 := o2'; have cb0 := b2.keep0 ca0; have cb1 := b2.keep0 ca1; have hA2 := own_only' hrowA b2 (by simp); have hb2s := b2.size; have hoAs := oA.size; obtain ⟨AF, cF, vF, hrunF, hrowF, oF0, hkF, hAF⟩ := run_app_src w3.heap.size AA (done.length + p1.length) ca (done ++ p1) (some ⟨g2, 0, none⟩) p2.length e2 p2 v2 hA2 rfl (Src.own r2) (by omega) (by omega); have oF : Only [] w3 vF := (((hO1.trans0 b1).trans oA (fun x hx => .inr (by simp [blkOf] at hx; omega))).trans0 b2).trans oF0 (fun x hx => .inr (own_ge hA2 x hx).1); have cz0 := oF0.keep cb0 (fun hm => by rw [block_of_add] at hm; have := (own_ge hA2 _ hm).1; omega); have cz1 := oF0.keep cb1 (fun hm => by simp only [block_of_add] at hm; have := (own_ge hA2 _ hm).1; omega); have HF := hide hrowF; have HAF := hide (hAF (by obtain ⟨gA, hgA⟩ := hAA (by simp); rw [hgA]; simp))))))
      clear HD0 hD1 hA2 hrowA hrowF hrunA hrunF r1 r2 hkA hkF hAA hAF
      go_wp2_with fail
      go_roundw
      case rel =>
        obtain ⟨gF, rfl⟩ := HAF.out
        refine ⟨j + 1, cF, gF, done ++ p1 ++ p2, ?_, by go_num, by omega, oF, hide ?_, by simp only [List.length_append]; omega, ?_⟩
        · simp only [List.length_append]
        · rw [HFS.out, HFE.out, hDone.out]; simp only [List.append_assoc]
        · simp only [List.length_append]; exact HF
      case measure => simp [intOf]; omega
    · obtain rfl : j = n := by omega
      have i1 : ¬ (j : Int) < (j : Int) := by omega
      have e : L.take j = L := by rw [List.take_of_length_le (by rw [HN.out]; exact Nat.le_refl _)]
      have hd : done = B := by rw [hDone.out, e, ← hW0.out, ← hB.out, HN.out]
      subst hd
      have aX : Only [] w wr := a3.trans0 hO
      have hsX := hide (hsB.out.only0 hO)
      have hsW := hide (Src.own hrowD.out)
      have hszX := aX.size
      have hgbl := hgb3
      clear hLm3 hrowW hrowD hDone
      go_wp2_with fail
      refine (open_any (some ⟨gb, 0, none⟩) done.length cb done wr rfl (by omega) hsX.out).mono ?_
      rintro e w5 ⟨o5, g, gbb, cap, rfl, hR, hg, hgb⟩
      replace aX := aX.trans0 o5
      have e1 := run_str_any (some ⟨gb, 0, none⟩) done.length cb done w5 rfl (hsX.out.only0 o5)
      have e2 := run_str_any (some ⟨gd, 0, none⟩) done.length cd done w5 rfl (hsW.out.only0 o5)
      replace hsX := hide (hsX.out.only0 o5)
      have hgw : w.heap.size ≤ g := by omega
      have hgg : g ≠ gb := by have := hO.size; omega
      clear o5 hO
      by_cases hn0 : 0 < j
      · have l0 : (0 : Int) < (j : Int) := by omega
        have E1 := resL2_less L (by have := HN.out; omega) (by rw [HN.out]; exact hn0)
        rw [hB.out, HN.out] at E1
        have hn1 := take2_any ((j : Int) - 1) (by omega) (by omega) hR
        rw [List.drop_zero, E1] at hn1
        have HN1 := hide hn1
        clear hn1 E1
        go_wp2_with fail
        refine HN1.out.mono ?_
        rintro e w6 ⟨o6, hR6, A6, c6, rfl, hrow6⟩
        replace hR : Rd w6 g gbb cap done 0 := hR6
        replace aX : Only [] w w6 := aX.trans o6 (fun x hx => .inr (by simp at hx; omega))
        replace hsX := hide (hsX.out.only o6 (fun ad had _ => by obtain rfl : (⟨gb, 0, none⟩ : Addr) = ad := (by simpa using had); simp; omega))
        have hl6 := left_any hR
        rw [show ((done.length - 0 : Nat) : Int) = (done.length : Int) from by rw [Nat.sub_zero]] at hl6
        clear hR6 hrow6 o6 e1 e2
        go_wp2_with (first
          | (go_at_call 24; refine (num_any _ _).mono ?_; rintro e w' ⟨rfl, rfl⟩)
          | (go_at_call 26; refine hl6.mono ?_; rintro e w' ⟨rfl, q6, rfl⟩))
        replace hR := hR.only0 ((Only.refl [] _).drewN q6)
        replace aX := aX.drewN q6
        replace hsX := hide (hsX.out.drewN q6)
        clear hl6
        generalize w6.drewN q6 = w7 at hR aX hsX ⊢
        have E2 := resL2_full L HS.out (by have := HN.out; omega)
        rw [hB.out, HN.out] at E2
        have hn2 := take2_any (j : Int) (by omega) (by omega) hR
        rw [List.drop_zero, E2] at hn2
        have HN2 := hide hn2
        clear hn2 E2
        go_wp2_with fail
        refine HN2.out.mono ?_
        rintro e w8 ⟨o8, hR8, A8, c8, rfl, hrow8⟩
        rw [HN.out] at hrow8 ⊢
        have a8 : Only [] w w8 := aX.trans o8 (fun x hx => .inr (by simp at hx; omega))
        have hl8 := left_any hR8
        rw [show ((done.length - (0 + done.length) : Nat) : Int) = 0 from by omega] at hl8
        have hs8 := hide (hsX.out.only o8 (fun ad had _ => by obtain rfl : (⟨gb, 0, none⟩ : Addr) = ad := (by simpa using had); simp; omega))
        have R8 := hide hrow8
        clear hrow8 hR8 hR hsX o8
        go_wp2_with (first
          | (go_at_call 24; refine (num_any _ _).mono ?_; rintro e w' ⟨rfl, rfl⟩)
          | (go_at_call 26; refine hl8.mono ?_; rintro e w' ⟨rfl, q8, rfl⟩))
        clear hl8
        go_loopw [15] (fun vi wr => ∃ (i2 m : Nat), vi = .int .i64 (i2 : Int) ∧ i2 ≤ j ∧ w8.drewN m = wr) (fun vi _ => j - (intOf vi).toNat)
        case atStart => exact ⟨0, _, rfl, Nat.zero_le _, rfl⟩
        case round =>
          obtain ⟨i2, m, rfl, hj, rfl⟩ := hrel
          by_cases hlt : i2 < j
          · obtain ⟨⟨x, y⟩, hp⟩ : ∃ p, L[i2]? = some p := ⟨_, List.getElem?_eq_getElem (by rw [HN.out]; exact hlt)⟩
            obtain ⟨_, _, a, rfl, c0, c1'⟩ := (HL.out.only0 a8) i2 x y hp
            obtain ⟨g8, rfl, hc8, _⟩ := own_cell R8.out (by omega)
            obtain ⟨u0, u1⟩ := u2s_get L i2 (x, y) hp
            have d0 : w8.cell? ⟨g8, i2 * 2, none⟩ = some (.int .u64 (x : Int)) := by rw [hc8 _ (by omega)]; exact u0
            have d1 : w8.cell? ⟨g8, i2 * 2 + 1, none⟩ = some (.int .u64 (y : Int)) := by rw [hc8 _ (by omega)]; exact u1
            have i0 : (0 : Int) ≤ (i2 : Int) := by omega
            have i1 : (i2 : Int) < (j : Int) := by omega
            have hne := fun (W : World) => ne51 x y W
            clear hc8 u0 u1 hp
            go_wp2_with fail
            go_quiet (fail)
            go_wp2_with fail
            go_roundw
            case rel => exact ⟨i2 + 1, _, by go_num, by omega, by rw [← World.drewN_drewN]⟩
            case measure => simp [intOf]; omega
          · obtain rfl : i2 = j := by omega
            have i1 : ¬ (i2 : Int) < (i2 : Int) := by omega
            by_cases hcut : cut < 0
            · go_wp2_with (go_at_call 18; refine (known_any _).mono ?_; rintro e wk ⟨rfl, ok⟩)
              go_ret
              exact ⟨rfl, (a8.drewN _).trans0 ok⟩
            · by_cases hcut2 : (done.length : Int) ≤ cut
              · go_wp2_with (go_at_call 18; refine (known_any _).mono ?_; rintro e wk ⟨rfl, ok⟩)
                go_ret
                exact ⟨rfl, (a8.drewN _).trans0 ok⟩
              · obtain ⟨mc, rfl⟩ : ∃ mc : Nat, cut = mc := ⟨cut.toNat, by omega⟩
                have hmc : mc < done.length := by omega
                have d2 : decide ((done.length : Int) ≤ (mc : Int)) = false := by simp; omega
                have t0 : (0 : Int) ≤ (mc : Int) := by omega
                have t1 : (mc : Int) ≤ (cb : Int) := by omega
                have E3 := resL2_cut L HS.out (by have := HN.out; omega) mc (by rw [hB.out]; exact hmc)
                rw [hB.out, HN.out] at E3
                have a9 := a8.drewN m
                have hst : Src (w8.drewN m) (some ⟨gb, 0, none⟩) (done.take mc) := fun hp => by
                  obtain ⟨ad, he, hc⟩ := hs8.out.drewN m (by simp at hp; omega)
                  refine ⟨ad, he, fun i2 u hj => hc i2 u ?_⟩
                  have hjl : i2 < (U8s (done.take mc)).length := (List.getElem?_eq_some_iff.1 hj).1
                  rw [length_U8s, List.length_take] at hjl
                  rw [← hj, U8s_get, U8s_get, List.getElem?_take_of_lt (by omega)]
                have E3H := hide E3
                have HST := hide hst
                clear E3 hst R8
                generalize w8.drewN m = w9 at a9 HST ⊢
                go_wp2_with fail
                refine (open_any (some ⟨gb, 0, none⟩) mc cb (done.take mc) w9 (by rw [List.length_take]; omega) (by omega) HST.out).mono ?_
                rintro e w10 ⟨o10, g2, gb2, cap2, rfl, hR2, hg2, hgb2⟩
                have a10 := a9.trans0 o10
                have hsz9 := a9.size
                have hn3 := take2_any (i2 : Int) (by omega) (by rw [List.length_take]; omega) hR2
                rw [List.drop_zero, E3H.out] at hn3
                have HN3 := hide hn3
                clear hn3 hR2 o10
                go_wp2_with fail
                refine HN3.out.mono ?_
                rintro e w11 ⟨o11, hR11, A11, c11, rfl, hrow11⟩
                have a11 : Only [] w w11 := a10.trans o11 (fun x hx => .inr (by simp at hx; omega))
                have hl11 := left_any hR11
                rw [show (((done.take mc).length - (0 + 0) : Nat) : Int) = (mc : Int) from by rw [List.length_take]; omega] at hl11
                clear hR11 hrow11 o11
                go_wp2_with (first
                  | (go_at_call 24; refine (num_any _ _).mono ?_; rintro e w' ⟨rfl, rfl⟩)
                  | (go_at_call 26; refine hl11.mono ?_; rintro e w' ⟨rfl, q11, rfl⟩)
                  | (go_at_call 18; refine (known_any _).mono ?_; rintro e wk ⟨rfl, ok⟩))
                go_ret
                exact ⟨rfl, (a11.drewN q11).trans0 ok⟩
      · have l0 : ¬ (0 : Int) < (j : Int) := by omega
        have E2 := resL2_full L HS.out (by have := HN.out; omega)
        rw [hB.out, HN.out] at E2
        have hn2 := take2_any (j : Int) (by omega) (by omega) hR
        rw [List.drop_zero, E2] at hn2
        have HN2 := hide hn2
        clear hn2 E2
        go_wp2_with fail
        refine HN2.out.mono ?_
        rintro e w8 ⟨o8, hR8, A8, c8, rfl, hrow8⟩
        rw [HN.out] at hrow8 ⊢
        have a8 : Only [] w w8 := aX.trans o8 (fun x hx => .inr (by simp at hx; omega))
        have hl8 := left_any hR8
        rw [show ((done.length - (0 + done.length) : Nat) : Int) = 0 from by omega] at hl8
        have hs8 := hide (hsX.out.only o8 (fun ad had _ => by obtain rfl : (⟨gb, 0, none⟩ : Addr) = ad := (by simpa using had); simp; omega))
        have R8 := hide hrow8
        clear hrow8 hR8 hR hsX o8
        go_wp2_with (first
          | (go_at_call 24; refine (num_any _ _).mono ?_; rintro e w' ⟨rfl, rfl⟩)
          | (go_at_call 26; refine hl8.mono ?_; rintro e w' ⟨rfl, q8, rfl⟩))
        clear hl8
        go_loopw [15] (fun vi wr => ∃ (i2 m : Nat), vi = .int .i64 (i2 : Int) ∧ i2 ≤ j ∧ w8.drewN m = wr) (fun vi _ => j - (intOf vi).toNat)
        case atStart => exact ⟨0, _, rfl, Nat.zero_le _, rfl⟩
        case round =>
          obtain ⟨i2, m, rfl, hj, rfl⟩ := hrel
          by_cases hlt : i2 < j
          · obtain ⟨⟨x, y⟩, hp⟩ : ∃ p, L[i2]? = some p := ⟨_, List.getElem?_eq_getElem (by rw [HN.out]; exact hlt)⟩
            obtain ⟨_, _, a, rfl, c0, c1'⟩ := (HL.out.only0 a8) i2 x y hp
            obtain ⟨g8, rfl, hc8, _⟩ := own_cell R8.out (by omega)
            obtain ⟨u0, u1⟩ := u2s_get L i2 (x, y) hp
            have d0 : w8.cell? ⟨g8, i2 * 2, none⟩ = some (.int .u64 (x : Int)) := by rw [hc8 _ (by omega)]; exact u0
            have d1 : w8.cell? ⟨g8, i2 * 2 + 1, none⟩ = some (.int .u64 (y : Int)) := by rw [hc8 _ (by omega)]; exact u1
            have i0 : (0 : Int) ≤ (i2 : Int) := by omega
            have i1 : (i2 : Int) < (j : Int) := by omega
            have hne := fun (W : World) => ne51 x y W
            clear hc8 u0 u1 hp
            go_wp2_with fail
            go_quiet (fail)
            go_wp2_with fail
            go_roundw
            case rel => exact ⟨i2 + 1, _, by go_num, by omega, by rw [← World.drewN_drewN]⟩
            case measure => simp [intOf]; omega
          · obtain rfl : i2 = j := by omega
            have i1 : ¬ (i2 : Int) < (i2 : Int) := by omega
            by_cases hcut : cut < 0
            · go_wp2_with (go_at_call 18; refine (known_any _).mono ?_; rintro e wk ⟨rfl, ok⟩)
              go_ret
              exact ⟨rfl, (a8.drewN _).trans0 ok⟩
            · by_cases hcut2 : (done.length : Int) ≤ cut
              · go_wp2_with (go_at_call 18; refine (known_any _).mono ?_; rintro e wk ⟨rfl, ok⟩)
                go_ret
                exact ⟨rfl, (a8.drewN _).trans0 ok⟩
              · obtain ⟨mc, rfl⟩ : ∃ mc : Nat, cut = mc := ⟨cut.toNat, by omega⟩
                have hmc : mc < done.length := by omega
                have d2 : decide ((done.length : Int) ≤ (mc : Int)) = false := by simp; omega
                have t0 : (0 : Int) ≤ (mc : Int) := by omega
                have t1 : (mc : Int) ≤ (cb : Int) := by omega
                have E3 := resL2_cut L HS.out (by have := HN.out; omega) mc (by rw [hB.out]; exact hmc)
                rw [hB.out, HN.out] at E3
                have a9 := a8.drewN m
                have hst : Src (w8.drewN m) (some ⟨gb, 0, none⟩) (done.take mc) := fun hp => by
                  obtain ⟨ad, he, hc⟩ := hs8.out.drewN m (by simp at hp; omega)
                  refine ⟨ad, he, fun i2 u hj => hc i2 u ?_⟩
                  have hjl : i2 < (U8s (done.take mc)).length := (List.getElem?_eq_some_iff.1 hj).1
                  rw [length_U8s, List.length_take] at hjl
                  rw [← hj, U8s_get, U8s_get, List.getElem?_take_of_lt (by omega)]
                have E3H := hide E3
                have HST := hide hst
                clear E3 hst R8
                generalize w8.drewN m = w9 at a9 HST ⊢
                go_wp2_with fail
                refine (open_any (some ⟨gb, 0, none⟩) mc cb (done.take mc) w9 (by rw [List.length_take]; omega) (by omega) HST.out).mono ?_
                rintro e w10 ⟨o10, g2, gb2, cap2, rfl, hR2, hg2, hgb2⟩
                have a10 := a9.trans0 o10
                have hsz9 := a9.size
                have hn3 := take2_any (i2 : Int) (by omega) (by rw [List.length_take]; omega) hR2
                rw [List.drop_zero, E3H.out] at hn3
                have HN3 := hide hn3
                clear hn3 hR2 o10
                go_wp2_with fail
                refine HN3.out.mono ?_
                rintro e w11 ⟨o11, hR11, A11, c11, rfl, hrow11⟩
                have a11 : Only [] w w11 := a10.trans o11 (fun x hx => .inr (by simp at hx; omega))
                have hl11 := left_any hR11
                rw [show (((done.take mc).length - (0 + 0) : Nat) : Int) = (mc : Int) from by rw [List.length_take]; omega] at hl11
                clear hR11 hrow11 o11
                go_wp2_with (first
                  | (go_at_call 24; refine (num_any _ _).mono ?_; rintro e w' ⟨rfl, rfl⟩)
                  | (go_at_call 26; refine hl11.mono ?_; rintro e w' ⟨rfl, q11, rfl⟩)
                  | (go_at_call 18; refine (known_any _).mono ?_; rintro e wk ⟨rfl, ok⟩))
                go_ret
                exact ⟨rfl, (a11.drewN q11).trans0 ok⟩
end Go.Proofs.Ytdaeaepfbnlaeaa
