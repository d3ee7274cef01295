/- Script: ScriptBack's walk. No condition but what each theorem says. -/
import Derived.Test.YteblhklclcjonaaGreatDoorSpD
import Derived.Test.YteblhklclcjonaaGreatDoorSnM
namespace Go.Proofs.YteblhklclcjonaaGreatDoor
open Go.RowKit
set_option linter.unusedVariables false
set_option linter.all false
set_option maxRecDepth 100000

theorem parF_none {l : List UInt8} {k : Nat} {er : Int} (h : parF l = (none, k, er)) : er = 3 ∨ er = 4 := by
  unfold parF at h
  split at h
  · simp at h; omega
  · split at h
    · split at h
      · simp at h; omega
      · simp at h
    · simp at h; omega
theorem par_text {J : Jb} {n : Nat} {f : Nat → Ev} (h : GoodJE J n f) : ∃ v, parF (scrT J n f) = (some ⟨v, psL J.pn J.P, tsL J.tn J.T, evL n f⟩, 0, 0) ∧ (∀ q, q < 6 → v q = v9 J q) ∧ GoodS ⟨v, psL J.pn J.P, tsL J.tn J.T, evL n f⟩ := by
  have hg := good_sc h
  obtain ⟨v, h1, h2⟩ := par_back hg (scrB_all hg)
  rw [scrT_B]
  refine ⟨v, h1, h2, ?_, hg.p0, hg.pl, hg.pg, hg.tl, hg.tg, hg.el, hg.eg⟩
  show numOk v = true
  rw [numOk_congr h2]
  exact hg.v
set_option maxHeartbeats 16000000 in
theorem sback_long (J : Jb) (A : Option Addr) (n c : Nat) (f : Nat → Ev) (K : Jb) (B : Option Addr) (m d : Nat) (g : Nat → Ev) (l : List UInt8) (w : World) (he : Env w) (hw4 : 4 ≤ w.heap.size) (hJ : JbAt w J) (hK : JbAt w K) (hJ6 : V64 J) (hK6 : V64 K) (hJi : ImmOk J) (hKi : ImmOk K) (hE : EvAt w A n f) (hF : EvAt w B m g) (hEl : EvLt A w.heap.size) (hFl : EvLt B w.heap.size) (hn : n ≤ maxLen) (hm : m ≤ maxLen) (hl : 30000 < l.length) : Calls Tryz.prog 6 #[.agg (sc9 J A n c), .agg (sc9 K B m d), .string (bs l)] w fun e w' => e = .returned (.bool true) ∧ Only [] w w' := by
  obtain ⟨sa, ea, hea, TXA, hga⟩ := text_ans J A n c f w he hJ hJi hE hEl hn
  obtain ⟨sb, eb, heb, TXB, hgb⟩ := text_ans K B m d g w he hK hKi hF hFl hm
  have TXA := hide TXA
  have TXB := hide TXB
  have KN := hide (fun W (o : Only [] w W) => sknown_any W (he.only o) (by have := o.size; omega))
  have MA := hide (fun W (o : Only [] w W) => much_any J A n c W (jb_only0 hJ o))
  have MB := hide (fun W (o : Only [] w W) => much_any K B m d W (jb_only0 hK o))
  have SMc := hide (fun W (o : Only [] w W) => (show Calls Tryz.prog 30 #[.agg (sc9 J A n c), .agg (sc9 K B m d)] W fun e w' => e = .returned (.bool (smB J n f K m g)) ∧ Only [] W w' from ssame_any J A n c f K B m d g W (he.only o) (jb_only0 hJ o) (jb_only0 hK o) hJ6 hK6 (hE.only0 o) (hF.only0 o) hn))
  have RSc := hide (fun W (o : Only [] w W) => (show Calls Tryz.prog 26 #[.agg (sc9 J A n c), .agg (sc9 K B m d)] W fun e w' => e = .returned (.bool (rsB J n f K m g)) ∧ Only [] W w' from rsame26_any J A n c f K B m d g W (jb_only0 hJ o) (jb_only0 hK o) (hE.only0 o) (hF.only0 o) hn))
  have HE := hide he
  have HJ := hide hJ
  have HEV := hide hE
  have HJ6 := hide hJ6
  have HGA := hide hga
  have HGB := hide hgb
  have OC := hide (((Only.refl [] w).alloc (.cells (sc9 J A n c) 54)).alloc (.cells (sc9 K B m d) 54))
  have B1 := hide ((Blk.new w 54 (sc9 J A n c)).alloc (.cells (sc9 K B m d) 54))
  have B2 := hide (Blk.new (w.alloc (.cells (sc9 J A n c) 54)) 54 (sc9 K B m d))
  simp only [World.size_alloc] at B2
  unfold sc9 at B1 B2 OC TXA TXB MA MB SMc RSc
  unfold sc9
  obtain ⟨X, hX⟩ : ∃ X, w.heap.size = X := ⟨_, rfl⟩
  rw [hX] at B1 B2
  have x0 := B1.out.cell 0; have x1 := B1.out.cell 1; have x2 := B1.out.cell 2; have x3 := B1.out.cell 3; have x4 := B1.out.cell 4; have x5 := B1.out.cell 5; have x6 := B1.out.cell 6; have x7 := B1.out.cell 7; have x8 := B1.out.cell 8; have y0 := B2.out.cell 0; have y1 := B2.out.cell 1; have y2 := B2.out.cell 2; have y3 := B2.out.cell 3; have y4 := B2.out.cell 4; have y5 := B2.out.cell 5; have y6 := B2.out.cell 6; have y7 := B2.out.cell 7; have y8 := B2.out.cell 8
  have hz : (bs l).size = l.length := bs_size l
  have d1 : decide ((l.length : Int) ≤ 30000) = false := decide_eq_false (by omega)
  have d2 : decide (l.length ≤ 30000) = false := decide_eq_false (by omega)
  have d3 : ¬ (l.length : Int) ≤ 30000 := by omega
  clear he hJ hK hJ6 hK6 hJi hKi hE hF hEl hFl hga hgb
  go_enter Tryz.func6, Tryz.ntmps6
  go_wp2_with (first
    | (go_at_call 7; (with_reducible refine (KN.out _ OC.out).mono ?_); rintro e v1 ⟨rfl, o⟩; have OC := hide (OC.out.trans0 o); have B1 := hide (B1.out.only o (by simp)); have B2 := hide (B2.out.only o (by simp)); clear x0 x1 x2 x3 x4 x5 x6 x7 x8 y0 y1 y2 y3 y4 y5 y6 y7 y8; have x0 := B1.out.cell 0; have x1 := B1.out.cell 1; have x2 := B1.out.cell 2; have x3 := B1.out.cell 3; have x4 := B1.out.cell 4; have x5 := B1.out.cell 5; have x6 := B1.out.cell 6; have x7 := B1.out.cell 7; have x8 := B1.out.cell 8; have y0 := B2.out.cell 0; have y1 := B2.out.cell 1; have y2 := B2.out.cell 2; have y3 := B2.out.cell 3; have y4 := B2.out.cell 4; have y5 := B2.out.cell 5; have y6 := B2.out.cell 6; have y7 := B2.out.cell 7; have y8 := B2.out.cell 8; clear o KN)
    | (go_at_call 20; (with_reducible refine (MA.out _ OC.out).mono ?_); rintro e v3 ⟨⟨bA, rfl⟩, o⟩; have OC := hide (OC.out.trans0 o); have B1 := hide (B1.out.only o (by simp)); have B2 := hide (B2.out.only o (by simp)); clear x0 x1 x2 x3 x4 x5 x6 x7 x8 y0 y1 y2 y3 y4 y5 y6 y7 y8; have x0 := B1.out.cell 0; have x1 := B1.out.cell 1; have x2 := B1.out.cell 2; have x3 := B1.out.cell 3; have x4 := B1.out.cell 4; have x5 := B1.out.cell 5; have x6 := B1.out.cell 6; have x7 := B1.out.cell 7; have x8 := B1.out.cell 8; have y0 := B2.out.cell 0; have y1 := B2.out.cell 1; have y2 := B2.out.cell 2; have y3 := B2.out.cell 3; have y4 := B2.out.cell 4; have y5 := B2.out.cell 5; have y6 := B2.out.cell 6; have y7 := B2.out.cell 7; have y8 := B2.out.cell 8; clear o MA; cases bA))
  · go_wp2_with (go_at_call 20; (with_reducible refine (MB.out _ OC.out).mono ?_); rintro e v3 ⟨⟨bB, rfl⟩, o⟩; have OC := hide (OC.out.trans0 o); have B1 := hide (B1.out.only o (by simp)); have B2 := hide (B2.out.only o (by simp)); clear x0 x1 x2 x3 x4 x5 x6 x7 x8 y0 y1 y2 y3 y4 y5 y6 y7 y8; have x0 := B1.out.cell 0; have x1 := B1.out.cell 1; have x2 := B1.out.cell 2; have x3 := B1.out.cell 3; have x4 := B1.out.cell 4; have x5 := B1.out.cell 5; have x6 := B1.out.cell 6; have x7 := B1.out.cell 7; have x8 := B1.out.cell 8; have y0 := B2.out.cell 0; have y1 := B2.out.cell 1; have y2 := B2.out.cell 2; have y3 := B2.out.cell 3; have y4 := B2.out.cell 4; have y5 := B2.out.cell 5; have y6 := B2.out.cell 6; have y7 := B2.out.cell 7; have y8 := B2.out.cell 8; clear o MB; cases bB)
    · by_cases hzz : ea + eb = 0
      · obtain rfl : ea = 0 := by omega
        obtain rfl : eb = 0 := by omega
        obtain ⟨gA, hsa⟩ := HGA.out rfl
        obtain ⟨gB, hsb⟩ := HGB.out rfl
        obtain ⟨v', hpar, hv', hgs⟩ := par_text gA
        have hll : (scrT J n f).length ≤ 1048576 := by rw [scrT_B]; exact scrB_all (good_sc gA)
        have hrs := sm_rs gA gB
        have hss := sm_scr gA gB
        rw [← hrs] at RSc
        have SR := sm_read (J := J) (n := n) (f := f) hv'
        obtain ⟨S, hS⟩ : ∃ S : Sc, ⟨v', psL J.pn J.P, tsL J.tn J.T, evL n f⟩ = S := ⟨_, rfl⟩
        rw [hS] at hpar hgs SR
        have hSe : S.es = evL n f := by rw [← hS]
        rw [← hSe] at SR
        have hSn : S.es.length ≤ maxLen := by have := hgs.el; unfold maxLen; omega
        obtain ⟨lA, hlA⟩ : ∃ q, scrT J n f = q := ⟨_, rfl⟩
        obtain ⟨lB, hlB⟩ : ∃ q, scrT K m g = q := ⟨_, rfl⟩
        rw [hlA] at hsa hpar hll hss
        rw [hlB] at hsb hss
        subst hsa hsb
        have PT2 := hide (fun W (o : Only [] w W) => (show Calls Tryz.prog 29 #[.string (bs lA)] W fun e w' => (∃ PA pk vs TA tc EA ec, e = .returned (.tuple #[.agg #[.int .i64 (S.v 0), .int .i64 (S.v 1), .int .i64 (S.v 2), .int .i64 (S.v 3), .int .i64 (S.v 4), .int .i64 (S.v 5), .slice PA S.ps.length pk, .slice TA S.ts.length tc, .slice EA S.es.length ec], .int .i64 0, .int .i64 0]) ∧ Ps w' (W.heap.size + 1) PA pk vs S.ps ∧ Qs w' (W.heap.size + 1) TA tc (S.ts.map bs) ∧ Es w' (W.heap.size + 1) EA ec S.es) ∧ Only [] W w' from by
          have h := sparse_any lA (by omega) W (HE.out.only o) (by have := o.size; omega)
          rw [hpar] at h
          exact h))
        have HGS := hide hgs
        have HSR := hide SR
        have HSN := hide hSn
        obtain ⟨sm, hsm⟩ : ∃ q, smB J n f K m g = q := ⟨_, rfl⟩
        rw [hsm] at SMc RSc hss
        have HSS := hide hss
        clear hlA hlB hS hgs SR hpar hv' hrs hsm hss hSe hSn gA gB HGA HGB hea heb hzz hll
        go_wp2_with (first
          | (go_at_call 23; (with_reducible refine (TXA.out _ OC.out).mono ?_); rintro e v3 ⟨rfl, o⟩; have OC := hide (OC.out.trans0 o); have B1 := hide (B1.out.only o (by simp)); have B2 := hide (B2.out.only o (by simp)); clear x0 x1 x2 x3 x4 x5 x6 x7 x8 y0 y1 y2 y3 y4 y5 y6 y7 y8; have x0 := B1.out.cell 0; have x1 := B1.out.cell 1; have x2 := B1.out.cell 2; have x3 := B1.out.cell 3; have x4 := B1.out.cell 4; have x5 := B1.out.cell 5; have x6 := B1.out.cell 6; have x7 := B1.out.cell 7; have x8 := B1.out.cell 8; have y0 := B2.out.cell 0; have y1 := B2.out.cell 1; have y2 := B2.out.cell 2; have y3 := B2.out.cell 3; have y4 := B2.out.cell 4; have y5 := B2.out.cell 5; have y6 := B2.out.cell 6; have y7 := B2.out.cell 7; have y8 := B2.out.cell 8; clear o TXA)
          | (go_at_call 23; (with_reducible refine (TXB.out _ OC.out).mono ?_); rintro e v3 ⟨rfl, o⟩; have OC := hide (OC.out.trans0 o); have B1 := hide (B1.out.only o (by simp)); have B2 := hide (B2.out.only o (by simp)); clear x0 x1 x2 x3 x4 x5 x6 x7 x8 y0 y1 y2 y3 y4 y5 y6 y7 y8; have x0 := B1.out.cell 0; have x1 := B1.out.cell 1; have x2 := B1.out.cell 2; have x3 := B1.out.cell 3; have x4 := B1.out.cell 4; have x5 := B1.out.cell 5; have x6 := B1.out.cell 6; have x7 := B1.out.cell 7; have x8 := B1.out.cell 8; have y0 := B2.out.cell 0; have y1 := B2.out.cell 1; have y2 := B2.out.cell 2; have y3 := B2.out.cell 3; have y4 := B2.out.cell 4; have y5 := B2.out.cell 5; have y6 := B2.out.cell 6; have y7 := B2.out.cell 7; have y8 := B2.out.cell 8; clear o TXB)
          | (go_at_call 29; (with_reducible refine (PT2.out _ OC.out).mono ?_); rintro e v5 ⟨⟨PA, pk, vs, TA, tc, EA, ec, rfl, hps, hqs, hes⟩, o⟩; have oy := (Only.refl [] v5).alloc (.cells #[.int .i64 (S.v 0), .int .i64 (S.v 1), .int .i64 (S.v 2), .int .i64 (S.v 3), .int .i64 (S.v 4), .int .i64 (S.v 5), .slice PA S.ps.length pk, .slice TA S.ts.length tc, .slice EA S.es.length ec] 54); have BX := hide (Blk.new v5 54 #[.int .i64 (S.v 0), .int .i64 (S.v 1), .int .i64 (S.v 2), .int .i64 (S.v 3), .int .i64 (S.v 4), .int .i64 (S.v 5), .slice PA S.ps.length pk, .slice TA S.ts.length tc, .slice EA S.es.length ec]); have PSx := hide (hps.only0 oy); have QSx := hide (hqs.only0 oy); have ESx := hide (hes.only0 oy); have oz := o.trans0 oy; have OC := hide (OC.out.trans0 oz); have B1 := hide (B1.out.only oz (by simp)); have B2 := hide (B2.out.only oz (by simp)); clear x0 x1 x2 x3 x4 x5 x6 x7 x8 y0 y1 y2 y3 y4 y5 y6 y7 y8; have x0 := B1.out.cell 0; have x1 := B1.out.cell 1; have x2 := B1.out.cell 2; have x3 := B1.out.cell 3; have x4 := B1.out.cell 4; have x5 := B1.out.cell 5; have x6 := B1.out.cell 6; have x7 := B1.out.cell 7; have x8 := B1.out.cell 8; have y0 := B2.out.cell 0; have y1 := B2.out.cell 1; have y2 := B2.out.cell 2; have y3 := B2.out.cell 3; have y4 := B2.out.cell 4; have y5 := B2.out.cell 5; have y6 := B2.out.cell 6; have y7 := B2.out.cell 7; have y8 := B2.out.cell 8; have z0 := BX.out.cell 0; have z1 := BX.out.cell 1; have z2 := BX.out.cell 2; have z3 := BX.out.cell 3; have z4 := BX.out.cell 4; have z5 := BX.out.cell 5; have z6 := BX.out.cell 6; have z7 := BX.out.cell 7; have z8 := BX.out.cell 8; clear o oy oz hps hqs hes PT2)
          | (go_at_call 12; (with_reducible refine (num_any _ _).mono ?_); rintro e v2 ⟨rfl, hw⟩; obtain rfl := hw.symm; clear hw))
        obtain ⟨V5, hV5⟩ : ∃ W, v5.alloc (.cells #[.int .i64 (S.v 0), .int .i64 (S.v 1), .int .i64 (S.v 2), .int .i64 (S.v 3), .int .i64 (S.v 4), .int .i64 (S.v 5), .slice PA S.ps.length pk, .slice TA S.ts.length tc, .slice EA S.es.length ec] 54) = W := ⟨_, rfl⟩
        rw [hV5] at B1 B2 OC BX PSx QSx ESx x0 x1 x2 x3 x4 x5 x6 x7 x8 y0 y1 y2 y3 y4 y5 y6 y7 y8 z0 z1 z2 z3 z4 z5 z6 z7 z8 ⊢
        obtain ⟨Y5, hY5⟩ : ∃ y, v5.heap.size = y := ⟨_, rfl⟩
        rw [hY5] at BX z0 z1 z2 z3 z4 z5 z6 z7 z8 ⊢
        have OX := hide (Only.refl [] V5)
        have OC5 := OC
        have SX := hide (fun W (o : Only [] V5 W) => (show Calls Tryz.prog 30 #[.agg #[.int .i64 (S.v 0), .int .i64 (S.v 1), .int .i64 (S.v 2), .int .i64 (S.v 3), .int .i64 (S.v 4), .int .i64 (S.v 5), .slice PA S.ps.length pk, .slice TA S.ts.length tc, .slice EA S.es.length ec], .agg #[.int .i64 J.t, .int .i64 J.o, .int .i64 J.s, .int .i64 J.q, .int .i64 J.m, .int .i64 J.p, .slice J.pA J.pn J.pc, .slice J.tA J.tn J.tc, .slice A n c]] W fun e w' => e = .returned (.bool true) ∧ Only [] W w' from by
          have h := ssame_any (jbOf S PA pk vs TA tc) EA S.es.length ec (evF S.es) J A n c f W (HE.out.only (OC5.out.trans0 o)) (jb_only0 (jb_at HGS.out PSx.out QSx.out) o) (jb_only0 HJ.out (OC5.out.trans0 o)) (v64_good HGS.out PA pk vs TA tc) HJ6.out ((ESx.out.at_).only0 o) (HEV.out.only0 (OC5.out.trans0 o)) HSN.out
          rw [show (hdB (jbOf S PA pk vs TA tc) J && ((psB (jbOf S PA pk vs TA tc) J && tsB (jbOf S PA pk vs TA tc) J) && esB S.es.length n (evF S.es) f)) = true from HSR.out PA pk vs TA tc] at h
          exact h))
        clear hV5 hY5
        cases sm
        · have bq := bytes_ne (x := bs lA) (y := bs lB) (fun h => by have := HSS.out.2 (bs_inj h); cases this)
          obtain ⟨tA, htA⟩ : ∃ q, bs lA = q := ⟨_, rfl⟩
          obtain ⟨tB, htB⟩ : ∃ q, bs lB = q := ⟨_, rfl⟩
          rw [htA, htB] at bq
          simp only [htA, htB]
          go_wp2_with (first
            | (go_at_call 30; (with_reducible refine (SX.out _ OX.out).mono ?_); rintro e v3 ⟨rfl, o⟩; have OC := hide (OC.out.trans0 o); have B1 := hide (B1.out.only o (by simp)); have B2 := hide (B2.out.only o (by simp)); clear x0 x1 x2 x3 x4 x5 x6 x7 x8 y0 y1 y2 y3 y4 y5 y6 y7 y8; have x0 := B1.out.cell 0; have x1 := B1.out.cell 1; have x2 := B1.out.cell 2; have x3 := B1.out.cell 3; have x4 := B1.out.cell 4; have x5 := B1.out.cell 5; have x6 := B1.out.cell 6; have x7 := B1.out.cell 7; have x8 := B1.out.cell 8; have y0 := B2.out.cell 0; have y1 := B2.out.cell 1; have y2 := B2.out.cell 2; have y3 := B2.out.cell 3; have y4 := B2.out.cell 4; have y5 := B2.out.cell 5; have y6 := B2.out.cell 6; have y7 := B2.out.cell 7; have y8 := B2.out.cell 8; have OX := hide (OX.out.trans0 o); have BX := hide (BX.out.only o (by simp)); clear z0 z1 z2 z3 z4 z5 z6 z7 z8; have z0 := BX.out.cell 0; have z1 := BX.out.cell 1; have z2 := BX.out.cell 2; have z3 := BX.out.cell 3; have z4 := BX.out.cell 4; have z5 := BX.out.cell 5; have z6 := BX.out.cell 6; have z7 := BX.out.cell 7; have z8 := BX.out.cell 8; clear o)
            | (go_at_call 30; (with_reducible refine (SMc.out _ OC.out).mono ?_); rintro e v3 ⟨rfl, o⟩; have OC := hide (OC.out.trans0 o); have B1 := hide (B1.out.only o (by simp)); have B2 := hide (B2.out.only o (by simp)); clear x0 x1 x2 x3 x4 x5 x6 x7 x8 y0 y1 y2 y3 y4 y5 y6 y7 y8; have x0 := B1.out.cell 0; have x1 := B1.out.cell 1; have x2 := B1.out.cell 2; have x3 := B1.out.cell 3; have x4 := B1.out.cell 4; have x5 := B1.out.cell 5; have x6 := B1.out.cell 6; have x7 := B1.out.cell 7; have x8 := B1.out.cell 8; have y0 := B2.out.cell 0; have y1 := B2.out.cell 1; have y2 := B2.out.cell 2; have y3 := B2.out.cell 3; have y4 := B2.out.cell 4; have y5 := B2.out.cell 5; have y6 := B2.out.cell 6; have y7 := B2.out.cell 7; have y8 := B2.out.cell 8; have OX := hide (OX.out.trans0 o); have BX := hide (BX.out.only o (by simp)); clear z0 z1 z2 z3 z4 z5 z6 z7 z8; have z0 := BX.out.cell 0; have z1 := BX.out.cell 1; have z2 := BX.out.cell 2; have z3 := BX.out.cell 3; have z4 := BX.out.cell 4; have z5 := BX.out.cell 5; have z6 := BX.out.cell 6; have z7 := BX.out.cell 7; have z8 := BX.out.cell 8; clear o)
            | (go_at_call 26; (with_reducible refine (RSc.out _ OC.out).mono ?_); rintro e v3 ⟨rfl, o⟩; have OC := hide (OC.out.trans0 o); have B1 := hide (B1.out.only o (by simp)); have B2 := hide (B2.out.only o (by simp)); clear x0 x1 x2 x3 x4 x5 x6 x7 x8 y0 y1 y2 y3 y4 y5 y6 y7 y8; have x0 := B1.out.cell 0; have x1 := B1.out.cell 1; have x2 := B1.out.cell 2; have x3 := B1.out.cell 3; have x4 := B1.out.cell 4; have x5 := B1.out.cell 5; have x6 := B1.out.cell 6; have x7 := B1.out.cell 7; have x8 := B1.out.cell 8; have y0 := B2.out.cell 0; have y1 := B2.out.cell 1; have y2 := B2.out.cell 2; have y3 := B2.out.cell 3; have y4 := B2.out.cell 4; have y5 := B2.out.cell 5; have y6 := B2.out.cell 6; have y7 := B2.out.cell 7; have y8 := B2.out.cell 8; have OX := hide (OX.out.trans0 o); have BX := hide (BX.out.only o (by simp)); clear z0 z1 z2 z3 z4 z5 z6 z7 z8; have z0 := BX.out.cell 0; have z1 := BX.out.cell 1; have z2 := BX.out.cell 2; have z3 := BX.out.cell 3; have z4 := BX.out.cell 4; have z5 := BX.out.cell 5; have z6 := BX.out.cell 6; have z7 := BX.out.cell 7; have z8 := BX.out.cell 8; clear o)
            | (go_at_call 12; (with_reducible refine (num_any _ _).mono ?_); rintro e v2 ⟨rfl, hw⟩; obtain rfl := hw.symm; clear hw))
          go_ret
          exact ⟨rfl, OC.out⟩
        · have hab : lA = lB := HSS.out.1 rfl
          obtain ⟨tA, htA⟩ : ∃ q, bs lA = q := ⟨_, rfl⟩
          rw [← hab]
          simp only [htA]
          have bq : (tA.toList == tA.toList) = true := by simp
          clear hab
          go_wp2_with (first
            | (go_at_call 30; (with_reducible refine (SX.out _ OX.out).mono ?_); rintro e v3 ⟨rfl, o⟩; have OC := hide (OC.out.trans0 o); have B1 := hide (B1.out.only o (by simp)); have B2 := hide (B2.out.only o (by simp)); clear x0 x1 x2 x3 x4 x5 x6 x7 x8 y0 y1 y2 y3 y4 y5 y6 y7 y8; have x0 := B1.out.cell 0; have x1 := B1.out.cell 1; have x2 := B1.out.cell 2; have x3 := B1.out.cell 3; have x4 := B1.out.cell 4; have x5 := B1.out.cell 5; have x6 := B1.out.cell 6; have x7 := B1.out.cell 7; have x8 := B1.out.cell 8; have y0 := B2.out.cell 0; have y1 := B2.out.cell 1; have y2 := B2.out.cell 2; have y3 := B2.out.cell 3; have y4 := B2.out.cell 4; have y5 := B2.out.cell 5; have y6 := B2.out.cell 6; have y7 := B2.out.cell 7; have y8 := B2.out.cell 8; have OX := hide (OX.out.trans0 o); have BX := hide (BX.out.only o (by simp)); clear z0 z1 z2 z3 z4 z5 z6 z7 z8; have z0 := BX.out.cell 0; have z1 := BX.out.cell 1; have z2 := BX.out.cell 2; have z3 := BX.out.cell 3; have z4 := BX.out.cell 4; have z5 := BX.out.cell 5; have z6 := BX.out.cell 6; have z7 := BX.out.cell 7; have z8 := BX.out.cell 8; clear o)
            | (go_at_call 30; (with_reducible refine (SMc.out _ OC.out).mono ?_); rintro e v3 ⟨rfl, o⟩; have OC := hide (OC.out.trans0 o); have B1 := hide (B1.out.only o (by simp)); have B2 := hide (B2.out.only o (by simp)); clear x0 x1 x2 x3 x4 x5 x6 x7 x8 y0 y1 y2 y3 y4 y5 y6 y7 y8; have x0 := B1.out.cell 0; have x1 := B1.out.cell 1; have x2 := B1.out.cell 2; have x3 := B1.out.cell 3; have x4 := B1.out.cell 4; have x5 := B1.out.cell 5; have x6 := B1.out.cell 6; have x7 := B1.out.cell 7; have x8 := B1.out.cell 8; have y0 := B2.out.cell 0; have y1 := B2.out.cell 1; have y2 := B2.out.cell 2; have y3 := B2.out.cell 3; have y4 := B2.out.cell 4; have y5 := B2.out.cell 5; have y6 := B2.out.cell 6; have y7 := B2.out.cell 7; have y8 := B2.out.cell 8; have OX := hide (OX.out.trans0 o); have BX := hide (BX.out.only o (by simp)); clear z0 z1 z2 z3 z4 z5 z6 z7 z8; have z0 := BX.out.cell 0; have z1 := BX.out.cell 1; have z2 := BX.out.cell 2; have z3 := BX.out.cell 3; have z4 := BX.out.cell 4; have z5 := BX.out.cell 5; have z6 := BX.out.cell 6; have z7 := BX.out.cell 7; have z8 := BX.out.cell 8; clear o)
            | (go_at_call 26; (with_reducible refine (RSc.out _ OC.out).mono ?_); rintro e v3 ⟨rfl, o⟩; have OC := hide (OC.out.trans0 o); have B1 := hide (B1.out.only o (by simp)); have B2 := hide (B2.out.only o (by simp)); clear x0 x1 x2 x3 x4 x5 x6 x7 x8 y0 y1 y2 y3 y4 y5 y6 y7 y8; have x0 := B1.out.cell 0; have x1 := B1.out.cell 1; have x2 := B1.out.cell 2; have x3 := B1.out.cell 3; have x4 := B1.out.cell 4; have x5 := B1.out.cell 5; have x6 := B1.out.cell 6; have x7 := B1.out.cell 7; have x8 := B1.out.cell 8; have y0 := B2.out.cell 0; have y1 := B2.out.cell 1; have y2 := B2.out.cell 2; have y3 := B2.out.cell 3; have y4 := B2.out.cell 4; have y5 := B2.out.cell 5; have y6 := B2.out.cell 6; have y7 := B2.out.cell 7; have y8 := B2.out.cell 8; have OX := hide (OX.out.trans0 o); have BX := hide (BX.out.only o (by simp)); clear z0 z1 z2 z3 z4 z5 z6 z7 z8; have z0 := BX.out.cell 0; have z1 := BX.out.cell 1; have z2 := BX.out.cell 2; have z3 := BX.out.cell 3; have z4 := BX.out.cell 4; have z5 := BX.out.cell 5; have z6 := BX.out.cell 6; have z7 := BX.out.cell 7; have z8 := BX.out.cell 8; clear o)
            | (go_at_call 12; (with_reducible refine (num_any _ _).mono ?_); rintro e v2 ⟨rfl, hw⟩; obtain rfl := hw.symm; clear hw))
          go_ret
          exact ⟨rfl, OC.out⟩
      · have hb0 : (ea + eb != 0) = true := by simpa using hzz
        go_wp2_with (first
          | (go_at_call 23; (with_reducible refine (TXA.out _ OC.out).mono ?_); rintro e v3 ⟨rfl, o⟩; have OC := hide (OC.out.trans0 o); have B1 := hide (B1.out.only o (by simp)); have B2 := hide (B2.out.only o (by simp)); clear x0 x1 x2 x3 x4 x5 x6 x7 x8 y0 y1 y2 y3 y4 y5 y6 y7 y8; have x0 := B1.out.cell 0; have x1 := B1.out.cell 1; have x2 := B1.out.cell 2; have x3 := B1.out.cell 3; have x4 := B1.out.cell 4; have x5 := B1.out.cell 5; have x6 := B1.out.cell 6; have x7 := B1.out.cell 7; have x8 := B1.out.cell 8; have y0 := B2.out.cell 0; have y1 := B2.out.cell 1; have y2 := B2.out.cell 2; have y3 := B2.out.cell 3; have y4 := B2.out.cell 4; have y5 := B2.out.cell 5; have y6 := B2.out.cell 6; have y7 := B2.out.cell 7; have y8 := B2.out.cell 8; clear o TXA)
          | (go_at_call 23; (with_reducible refine (TXB.out _ OC.out).mono ?_); rintro e v3 ⟨rfl, o⟩; have OC := hide (OC.out.trans0 o); have B1 := hide (B1.out.only o (by simp)); have B2 := hide (B2.out.only o (by simp)); clear x0 x1 x2 x3 x4 x5 x6 x7 x8 y0 y1 y2 y3 y4 y5 y6 y7 y8; have x0 := B1.out.cell 0; have x1 := B1.out.cell 1; have x2 := B1.out.cell 2; have x3 := B1.out.cell 3; have x4 := B1.out.cell 4; have x5 := B1.out.cell 5; have x6 := B1.out.cell 6; have x7 := B1.out.cell 7; have x8 := B1.out.cell 8; have y0 := B2.out.cell 0; have y1 := B2.out.cell 1; have y2 := B2.out.cell 2; have y3 := B2.out.cell 3; have y4 := B2.out.cell 4; have y5 := B2.out.cell 5; have y6 := B2.out.cell 6; have y7 := B2.out.cell 7; have y8 := B2.out.cell 8; clear o TXB)
          | (go_at_call 12; (with_reducible refine (num_any _ _).mono ?_); rintro e v2 ⟨rfl, hw⟩; obtain rfl := hw.symm; clear hw))
        go_ret
        exact ⟨rfl, OC.out⟩
    · go_wp2_with fail
      go_ret
      exact ⟨rfl, OC.out⟩
  · go_wp2_with fail
    go_ret
    exact ⟨rfl, OC.out⟩
end Go.Proofs.YteblhklclcjonaaGreatDoor
namespace Go.Proofs.YteblhklclcjonaaGreatDoor
open Go.RowKit
set_option linter.unusedVariables false
set_option linter.all false
set_option maxRecDepth 100000

set_option maxHeartbeats 16000000 in
theorem sback_none (J : Jb) (A : Option Addr) (n c : Nat) (f : Nat → Ev) (K : Jb) (B : Option Addr) (m d : Nat) (g : Nat → Ev) (l : List UInt8) (w : World) (he : Env w) (hw4 : 4 ≤ w.heap.size) (hJ : JbAt w J) (hK : JbAt w K) (hJ6 : V64 J) (hK6 : V64 K) (hJi : ImmOk J) (hKi : ImmOk K) (hE : EvAt w A n f) (hF : EvAt w B m g) (hEl : EvLt A w.heap.size) (hFl : EvLt B w.heap.size) (hn : n ≤ maxLen) (hm : m ≤ maxLen) (hl : l.length ≤ 30000) (k : Nat) (er : Int) (hp : parF l = (none, k, er)) : Calls Tryz.prog 6 #[.agg (sc9 J A n c), .agg (sc9 K B m d), .string (bs l)] w fun e w' => e = .returned (.bool true) ∧ Only [] w w' := by
  obtain ⟨sa, ea, hea, TXA, hga⟩ := text_ans J A n c f w he hJ hJi hE hEl hn
  obtain ⟨sb, eb, heb, TXB, hgb⟩ := text_ans K B m d g w he hK hKi hF hFl hm
  have TXA := hide TXA
  have TXB := hide TXB
  have KN := hide (fun W (o : Only [] w W) => sknown_any W (he.only o) (by have := o.size; omega))
  have MA := hide (fun W (o : Only [] w W) => much_any J A n c W (jb_only0 hJ o))
  have MB := hide (fun W (o : Only [] w W) => much_any K B m d W (jb_only0 hK o))
  have SMc := hide (fun W (o : Only [] w W) => (show Calls Tryz.prog 30 #[.agg (sc9 J A n c), .agg (sc9 K B m d)] W fun e w' => e = .returned (.bool (smB J n f K m g)) ∧ Only [] W w' from ssame_any J A n c f K B m d g W (he.only o) (jb_only0 hJ o) (jb_only0 hK o) hJ6 hK6 (hE.only0 o) (hF.only0 o) hn))
  have RSc := hide (fun W (o : Only [] w W) => (show Calls Tryz.prog 26 #[.agg (sc9 J A n c), .agg (sc9 K B m d)] W fun e w' => e = .returned (.bool (rsB J n f K m g)) ∧ Only [] W w' from rsame26_any J A n c f K B m d g W (jb_only0 hJ o) (jb_only0 hK o) (hE.only0 o) (hF.only0 o) hn))
  have HE := hide he
  have HJ := hide hJ
  have HEV := hide hE
  have HJ6 := hide hJ6
  have HGA := hide hga
  have HGB := hide hgb
  have OC := hide (((Only.refl [] w).alloc (.cells (sc9 J A n c) 54)).alloc (.cells (sc9 K B m d) 54))
  have B1 := hide ((Blk.new w 54 (sc9 J A n c)).alloc (.cells (sc9 K B m d) 54))
  have B2 := hide (Blk.new (w.alloc (.cells (sc9 J A n c) 54)) 54 (sc9 K B m d))
  simp only [World.size_alloc] at B2
  unfold sc9 at B1 B2 OC TXA TXB MA MB SMc RSc
  unfold sc9
  obtain ⟨X, hX⟩ : ∃ X, w.heap.size = X := ⟨_, rfl⟩
  rw [hX] at B1 B2
  have x0 := B1.out.cell 0; have x1 := B1.out.cell 1; have x2 := B1.out.cell 2; have x3 := B1.out.cell 3; have x4 := B1.out.cell 4; have x5 := B1.out.cell 5; have x6 := B1.out.cell 6; have x7 := B1.out.cell 7; have x8 := B1.out.cell 8; have y0 := B2.out.cell 0; have y1 := B2.out.cell 1; have y2 := B2.out.cell 2; have y3 := B2.out.cell 3; have y4 := B2.out.cell 4; have y5 := B2.out.cell 5; have y6 := B2.out.cell 6; have y7 := B2.out.cell 7; have y8 := B2.out.cell 8
  have hz : (bs l).size = l.length := bs_size l
  have d1 : decide ((l.length : Int) ≤ 30000) = true := decide_eq_true (by omega)
  have d2 : decide (l.length ≤ 30000) = true := decide_eq_true (by omega)
  have d3 : (l.length : Int) ≤ 30000 := by omega
  have her := parF_none hp
  have b0 : (er == 0) = false := by simp; omega
  have b1 : ¬ er = 0 := by omega
  have PT := hide (fun W (o : Only [] w W) => (show Calls Tryz.prog 29 #[.string (bs l)] W fun e w' => e = .returned (.tuple #[.agg #[.int .i64 0, .int .i64 0, .int .i64 0, .int .i64 0, .int .i64 0, .int .i64 0, .slice none 0 0, .slice none 0 0, .slice none 0 0], .int .i64 k, .int .i64 er]) ∧ Only [] W w' from by
    have h := sparse_any l (by omega) W (HE.out.only o) (by have := o.size; omega)
    rw [hp] at h
    exact h))
  clear hp her
  clear he hJ hK hJ6 hK6 hJi hKi hE hF hEl hFl hga hgb
  go_enter Tryz.func6, Tryz.ntmps6
  go_wp2_with (first
    | (go_at_call 7; (with_reducible refine (KN.out _ OC.out).mono ?_); rintro e v1 ⟨rfl, o⟩; have OC := hide (OC.out.trans0 o); have B1 := hide (B1.out.only o (by simp)); have B2 := hide (B2.out.only o (by simp)); clear x0 x1 x2 x3 x4 x5 x6 x7 x8 y0 y1 y2 y3 y4 y5 y6 y7 y8; have x0 := B1.out.cell 0; have x1 := B1.out.cell 1; have x2 := B1.out.cell 2; have x3 := B1.out.cell 3; have x4 := B1.out.cell 4; have x5 := B1.out.cell 5; have x6 := B1.out.cell 6; have x7 := B1.out.cell 7; have x8 := B1.out.cell 8; have y0 := B2.out.cell 0; have y1 := B2.out.cell 1; have y2 := B2.out.cell 2; have y3 := B2.out.cell 3; have y4 := B2.out.cell 4; have y5 := B2.out.cell 5; have y6 := B2.out.cell 6; have y7 := B2.out.cell 7; have y8 := B2.out.cell 8; clear o KN)
    | (go_at_call 29; (with_reducible refine (PT.out _ OC.out).mono ?_); rintro e v4 ⟨rfl, o⟩; have oz := o.trans0 ((Only.refl [] v4).alloc (.cells #[.int .i64 0, .int .i64 0, .int .i64 0, .int .i64 0, .int .i64 0, .int .i64 0, .slice none 0 0, .slice none 0 0, .slice none 0 0] 54)); have OC := hide (OC.out.trans0 oz); have B1 := hide (B1.out.only oz (by simp)); have B2 := hide (B2.out.only oz (by simp)); clear x0 x1 x2 x3 x4 x5 x6 x7 x8 y0 y1 y2 y3 y4 y5 y6 y7 y8; have x0 := B1.out.cell 0; have x1 := B1.out.cell 1; have x2 := B1.out.cell 2; have x3 := B1.out.cell 3; have x4 := B1.out.cell 4; have x5 := B1.out.cell 5; have x6 := B1.out.cell 6; have x7 := B1.out.cell 7; have x8 := B1.out.cell 8; have y0 := B2.out.cell 0; have y1 := B2.out.cell 1; have y2 := B2.out.cell 2; have y3 := B2.out.cell 3; have y4 := B2.out.cell 4; have y5 := B2.out.cell 5; have y6 := B2.out.cell 6; have y7 := B2.out.cell 7; have y8 := B2.out.cell 8; clear o oz PT)
    | (go_at_call 12; (with_reducible refine (num_any _ _).mono ?_); rintro e v2 ⟨rfl, hw⟩; obtain rfl := hw.symm; clear hw)
    | (go_at_call 20; (with_reducible refine (MA.out _ OC.out).mono ?_); rintro e v3 ⟨⟨bA, rfl⟩, o⟩; have OC := hide (OC.out.trans0 o); have B1 := hide (B1.out.only o (by simp)); have B2 := hide (B2.out.only o (by simp)); clear x0 x1 x2 x3 x4 x5 x6 x7 x8 y0 y1 y2 y3 y4 y5 y6 y7 y8; have x0 := B1.out.cell 0; have x1 := B1.out.cell 1; have x2 := B1.out.cell 2; have x3 := B1.out.cell 3; have x4 := B1.out.cell 4; have x5 := B1.out.cell 5; have x6 := B1.out.cell 6; have x7 := B1.out.cell 7; have x8 := B1.out.cell 8; have y0 := B2.out.cell 0; have y1 := B2.out.cell 1; have y2 := B2.out.cell 2; have y3 := B2.out.cell 3; have y4 := B2.out.cell 4; have y5 := B2.out.cell 5; have y6 := B2.out.cell 6; have y7 := B2.out.cell 7; have y8 := B2.out.cell 8; clear o MA; cases bA))
  · go_wp2_with (go_at_call 20; (with_reducible refine (MB.out _ OC.out).mono ?_); rintro e v3 ⟨⟨bB, rfl⟩, o⟩; have OC := hide (OC.out.trans0 o); have B1 := hide (B1.out.only o (by simp)); have B2 := hide (B2.out.only o (by simp)); clear x0 x1 x2 x3 x4 x5 x6 x7 x8 y0 y1 y2 y3 y4 y5 y6 y7 y8; have x0 := B1.out.cell 0; have x1 := B1.out.cell 1; have x2 := B1.out.cell 2; have x3 := B1.out.cell 3; have x4 := B1.out.cell 4; have x5 := B1.out.cell 5; have x6 := B1.out.cell 6; have x7 := B1.out.cell 7; have x8 := B1.out.cell 8; have y0 := B2.out.cell 0; have y1 := B2.out.cell 1; have y2 := B2.out.cell 2; have y3 := B2.out.cell 3; have y4 := B2.out.cell 4; have y5 := B2.out.cell 5; have y6 := B2.out.cell 6; have y7 := B2.out.cell 7; have y8 := B2.out.cell 8; clear o MB; cases bB)
    · by_cases hzz : ea + eb = 0
      · obtain rfl : ea = 0 := by omega
        obtain rfl : eb = 0 := by omega
        obtain ⟨gA, hsa⟩ := HGA.out rfl
        obtain ⟨gB, hsb⟩ := HGB.out rfl
        obtain ⟨v', hpar, hv', hgs⟩ := par_text gA
        have hll : (scrT J n f).length ≤ 1048576 := by rw [scrT_B]; exact scrB_all (good_sc gA)
        have hrs := sm_rs gA gB
        have hss := sm_scr gA gB
        rw [← hrs] at RSc
        have SR := sm_read (J := J) (n := n) (f := f) hv'
        obtain ⟨S, hS⟩ : ∃ S : Sc, ⟨v', psL J.pn J.P, tsL J.tn J.T, evL n f⟩ = S := ⟨_, rfl⟩
        rw [hS] at hpar hgs SR
        have hSe : S.es = evL n f := by rw [← hS]
        rw [← hSe] at SR
        have hSn : S.es.length ≤ maxLen := by have := hgs.el; unfold maxLen; omega
        obtain ⟨lA, hlA⟩ : ∃ q, scrT J n f = q := ⟨_, rfl⟩
        obtain ⟨lB, hlB⟩ : ∃ q, scrT K m g = q := ⟨_, rfl⟩
        rw [hlA] at hsa hpar hll hss
        rw [hlB] at hsb hss
        subst hsa hsb
        have PT2 := hide (fun W (o : Only [] w W) => (show Calls Tryz.prog 29 #[.string (bs lA)] W fun e w' => (∃ PA pk vs TA tc EA ec, e = .returned (.tuple #[.agg #[.int .i64 (S.v 0), .int .i64 (S.v 1), .int .i64 (S.v 2), .int .i64 (S.v 3), .int .i64 (S.v 4), .int .i64 (S.v 5), .slice PA S.ps.length pk, .slice TA S.ts.length tc, .slice EA S.es.length ec], .int .i64 0, .int .i64 0]) ∧ Ps w' (W.heap.size + 1) PA pk vs S.ps ∧ Qs w' (W.heap.size + 1) TA tc (S.ts.map bs) ∧ Es w' (W.heap.size + 1) EA ec S.es) ∧ Only [] W w' from by
          have h := sparse_any lA (by omega) W (HE.out.only o) (by have := o.size; omega)
          rw [hpar] at h
          exact h))
        have HGS := hide hgs
        have HSR := hide SR
        have HSN := hide hSn
        obtain ⟨sm, hsm⟩ : ∃ q, smB J n f K m g = q := ⟨_, rfl⟩
        rw [hsm] at SMc RSc hss
        have HSS := hide hss
        clear hlA hlB hS hgs SR hpar hv' hrs hsm hss hSe hSn gA gB HGA HGB hea heb hzz hll
        go_wp2_with (first
          | (go_at_call 23; (with_reducible refine (TXA.out _ OC.out).mono ?_); rintro e v3 ⟨rfl, o⟩; have OC := hide (OC.out.trans0 o); have B1 := hide (B1.out.only o (by simp)); have B2 := hide (B2.out.only o (by simp)); clear x0 x1 x2 x3 x4 x5 x6 x7 x8 y0 y1 y2 y3 y4 y5 y6 y7 y8; have x0 := B1.out.cell 0; have x1 := B1.out.cell 1; have x2 := B1.out.cell 2; have x3 := B1.out.cell 3; have x4 := B1.out.cell 4; have x5 := B1.out.cell 5; have x6 := B1.out.cell 6; have x7 := B1.out.cell 7; have x8 := B1.out.cell 8; have y0 := B2.out.cell 0; have y1 := B2.out.cell 1; have y2 := B2.out.cell 2; have y3 := B2.out.cell 3; have y4 := B2.out.cell 4; have y5 := B2.out.cell 5; have y6 := B2.out.cell 6; have y7 := B2.out.cell 7; have y8 := B2.out.cell 8; clear o TXA)
          | (go_at_call 23; (with_reducible refine (TXB.out _ OC.out).mono ?_); rintro e v3 ⟨rfl, o⟩; have OC := hide (OC.out.trans0 o); have B1 := hide (B1.out.only o (by simp)); have B2 := hide (B2.out.only o (by simp)); clear x0 x1 x2 x3 x4 x5 x6 x7 x8 y0 y1 y2 y3 y4 y5 y6 y7 y8; have x0 := B1.out.cell 0; have x1 := B1.out.cell 1; have x2 := B1.out.cell 2; have x3 := B1.out.cell 3; have x4 := B1.out.cell 4; have x5 := B1.out.cell 5; have x6 := B1.out.cell 6; have x7 := B1.out.cell 7; have x8 := B1.out.cell 8; have y0 := B2.out.cell 0; have y1 := B2.out.cell 1; have y2 := B2.out.cell 2; have y3 := B2.out.cell 3; have y4 := B2.out.cell 4; have y5 := B2.out.cell 5; have y6 := B2.out.cell 6; have y7 := B2.out.cell 7; have y8 := B2.out.cell 8; clear o TXB)
          | (go_at_call 29; (with_reducible refine (PT2.out _ OC.out).mono ?_); rintro e v5 ⟨⟨PA, pk, vs, TA, tc, EA, ec, rfl, hps, hqs, hes⟩, o⟩; have oy := (Only.refl [] v5).alloc (.cells #[.int .i64 (S.v 0), .int .i64 (S.v 1), .int .i64 (S.v 2), .int .i64 (S.v 3), .int .i64 (S.v 4), .int .i64 (S.v 5), .slice PA S.ps.length pk, .slice TA S.ts.length tc, .slice EA S.es.length ec] 54); have BX := hide (Blk.new v5 54 #[.int .i64 (S.v 0), .int .i64 (S.v 1), .int .i64 (S.v 2), .int .i64 (S.v 3), .int .i64 (S.v 4), .int .i64 (S.v 5), .slice PA S.ps.length pk, .slice TA S.ts.length tc, .slice EA S.es.length ec]); have PSx := hide (hps.only0 oy); have QSx := hide (hqs.only0 oy); have ESx := hide (hes.only0 oy); have oz := o.trans0 oy; have OC := hide (OC.out.trans0 oz); have B1 := hide (B1.out.only oz (by simp)); have B2 := hide (B2.out.only oz (by simp)); clear x0 x1 x2 x3 x4 x5 x6 x7 x8 y0 y1 y2 y3 y4 y5 y6 y7 y8; have x0 := B1.out.cell 0; have x1 := B1.out.cell 1; have x2 := B1.out.cell 2; have x3 := B1.out.cell 3; have x4 := B1.out.cell 4; have x5 := B1.out.cell 5; have x6 := B1.out.cell 6; have x7 := B1.out.cell 7; have x8 := B1.out.cell 8; have y0 := B2.out.cell 0; have y1 := B2.out.cell 1; have y2 := B2.out.cell 2; have y3 := B2.out.cell 3; have y4 := B2.out.cell 4; have y5 := B2.out.cell 5; have y6 := B2.out.cell 6; have y7 := B2.out.cell 7; have y8 := B2.out.cell 8; have z0 := BX.out.cell 0; have z1 := BX.out.cell 1; have z2 := BX.out.cell 2; have z3 := BX.out.cell 3; have z4 := BX.out.cell 4; have z5 := BX.out.cell 5; have z6 := BX.out.cell 6; have z7 := BX.out.cell 7; have z8 := BX.out.cell 8; clear o oy oz hps hqs hes PT2)
          | (go_at_call 12; (with_reducible refine (num_any _ _).mono ?_); rintro e v2 ⟨rfl, hw⟩; obtain rfl := hw.symm; clear hw))
        obtain ⟨V5, hV5⟩ : ∃ W, v5.alloc (.cells #[.int .i64 (S.v 0), .int .i64 (S.v 1), .int .i64 (S.v 2), .int .i64 (S.v 3), .int .i64 (S.v 4), .int .i64 (S.v 5), .slice PA S.ps.length pk, .slice TA S.ts.length tc, .slice EA S.es.length ec] 54) = W := ⟨_, rfl⟩
        rw [hV5] at B1 B2 OC BX PSx QSx ESx x0 x1 x2 x3 x4 x5 x6 x7 x8 y0 y1 y2 y3 y4 y5 y6 y7 y8 z0 z1 z2 z3 z4 z5 z6 z7 z8 ⊢
        obtain ⟨Y5, hY5⟩ : ∃ y, v5.heap.size = y := ⟨_, rfl⟩
        rw [hY5] at BX z0 z1 z2 z3 z4 z5 z6 z7 z8 ⊢
        have OX := hide (Only.refl [] V5)
        have OC5 := OC
        have SX := hide (fun W (o : Only [] V5 W) => (show Calls Tryz.prog 30 #[.agg #[.int .i64 (S.v 0), .int .i64 (S.v 1), .int .i64 (S.v 2), .int .i64 (S.v 3), .int .i64 (S.v 4), .int .i64 (S.v 5), .slice PA S.ps.length pk, .slice TA S.ts.length tc, .slice EA S.es.length ec], .agg #[.int .i64 J.t, .int .i64 J.o, .int .i64 J.s, .int .i64 J.q, .int .i64 J.m, .int .i64 J.p, .slice J.pA J.pn J.pc, .slice J.tA J.tn J.tc, .slice A n c]] W fun e w' => e = .returned (.bool true) ∧ Only [] W w' from by
          have h := ssame_any (jbOf S PA pk vs TA tc) EA S.es.length ec (evF S.es) J A n c f W (HE.out.only (OC5.out.trans0 o)) (jb_only0 (jb_at HGS.out PSx.out QSx.out) o) (jb_only0 HJ.out (OC5.out.trans0 o)) (v64_good HGS.out PA pk vs TA tc) HJ6.out ((ESx.out.at_).only0 o) (HEV.out.only0 (OC5.out.trans0 o)) HSN.out
          rw [show (hdB (jbOf S PA pk vs TA tc) J && ((psB (jbOf S PA pk vs TA tc) J && tsB (jbOf S PA pk vs TA tc) J) && esB S.es.length n (evF S.es) f)) = true from HSR.out PA pk vs TA tc] at h
          exact h))
        clear hV5 hY5
        cases sm
        · have bq := bytes_ne (x := bs lA) (y := bs lB) (fun h => by have := HSS.out.2 (bs_inj h); cases this)
          obtain ⟨tA, htA⟩ : ∃ q, bs lA = q := ⟨_, rfl⟩
          obtain ⟨tB, htB⟩ : ∃ q, bs lB = q := ⟨_, rfl⟩
          rw [htA, htB] at bq
          simp only [htA, htB]
          go_wp2_with (first
            | (go_at_call 30; (with_reducible refine (SX.out _ OX.out).mono ?_); rintro e v3 ⟨rfl, o⟩; have OC := hide (OC.out.trans0 o); have B1 := hide (B1.out.only o (by simp)); have B2 := hide (B2.out.only o (by simp)); clear x0 x1 x2 x3 x4 x5 x6 x7 x8 y0 y1 y2 y3 y4 y5 y6 y7 y8; have x0 := B1.out.cell 0; have x1 := B1.out.cell 1; have x2 := B1.out.cell 2; have x3 := B1.out.cell 3; have x4 := B1.out.cell 4; have x5 := B1.out.cell 5; have x6 := B1.out.cell 6; have x7 := B1.out.cell 7; have x8 := B1.out.cell 8; have y0 := B2.out.cell 0; have y1 := B2.out.cell 1; have y2 := B2.out.cell 2; have y3 := B2.out.cell 3; have y4 := B2.out.cell 4; have y5 := B2.out.cell 5; have y6 := B2.out.cell 6; have y7 := B2.out.cell 7; have y8 := B2.out.cell 8; have OX := hide (OX.out.trans0 o); have BX := hide (BX.out.only o (by simp)); clear z0 z1 z2 z3 z4 z5 z6 z7 z8; have z0 := BX.out.cell 0; have z1 := BX.out.cell 1; have z2 := BX.out.cell 2; have z3 := BX.out.cell 3; have z4 := BX.out.cell 4; have z5 := BX.out.cell 5; have z6 := BX.out.cell 6; have z7 := BX.out.cell 7; have z8 := BX.out.cell 8; clear o)
            | (go_at_call 30; (with_reducible refine (SMc.out _ OC.out).mono ?_); rintro e v3 ⟨rfl, o⟩; have OC := hide (OC.out.trans0 o); have B1 := hide (B1.out.only o (by simp)); have B2 := hide (B2.out.only o (by simp)); clear x0 x1 x2 x3 x4 x5 x6 x7 x8 y0 y1 y2 y3 y4 y5 y6 y7 y8; have x0 := B1.out.cell 0; have x1 := B1.out.cell 1; have x2 := B1.out.cell 2; have x3 := B1.out.cell 3; have x4 := B1.out.cell 4; have x5 := B1.out.cell 5; have x6 := B1.out.cell 6; have x7 := B1.out.cell 7; have x8 := B1.out.cell 8; have y0 := B2.out.cell 0; have y1 := B2.out.cell 1; have y2 := B2.out.cell 2; have y3 := B2.out.cell 3; have y4 := B2.out.cell 4; have y5 := B2.out.cell 5; have y6 := B2.out.cell 6; have y7 := B2.out.cell 7; have y8 := B2.out.cell 8; have OX := hide (OX.out.trans0 o); have BX := hide (BX.out.only o (by simp)); clear z0 z1 z2 z3 z4 z5 z6 z7 z8; have z0 := BX.out.cell 0; have z1 := BX.out.cell 1; have z2 := BX.out.cell 2; have z3 := BX.out.cell 3; have z4 := BX.out.cell 4; have z5 := BX.out.cell 5; have z6 := BX.out.cell 6; have z7 := BX.out.cell 7; have z8 := BX.out.cell 8; clear o)
            | (go_at_call 26; (with_reducible refine (RSc.out _ OC.out).mono ?_); rintro e v3 ⟨rfl, o⟩; have OC := hide (OC.out.trans0 o); have B1 := hide (B1.out.only o (by simp)); have B2 := hide (B2.out.only o (by simp)); clear x0 x1 x2 x3 x4 x5 x6 x7 x8 y0 y1 y2 y3 y4 y5 y6 y7 y8; have x0 := B1.out.cell 0; have x1 := B1.out.cell 1; have x2 := B1.out.cell 2; have x3 := B1.out.cell 3; have x4 := B1.out.cell 4; have x5 := B1.out.cell 5; have x6 := B1.out.cell 6; have x7 := B1.out.cell 7; have x8 := B1.out.cell 8; have y0 := B2.out.cell 0; have y1 := B2.out.cell 1; have y2 := B2.out.cell 2; have y3 := B2.out.cell 3; have y4 := B2.out.cell 4; have y5 := B2.out.cell 5; have y6 := B2.out.cell 6; have y7 := B2.out.cell 7; have y8 := B2.out.cell 8; have OX := hide (OX.out.trans0 o); have BX := hide (BX.out.only o (by simp)); clear z0 z1 z2 z3 z4 z5 z6 z7 z8; have z0 := BX.out.cell 0; have z1 := BX.out.cell 1; have z2 := BX.out.cell 2; have z3 := BX.out.cell 3; have z4 := BX.out.cell 4; have z5 := BX.out.cell 5; have z6 := BX.out.cell 6; have z7 := BX.out.cell 7; have z8 := BX.out.cell 8; clear o)
            | (go_at_call 12; (with_reducible refine (num_any _ _).mono ?_); rintro e v2 ⟨rfl, hw⟩; obtain rfl := hw.symm; clear hw))
          go_ret
          exact ⟨rfl, OC.out⟩
        · have hab : lA = lB := HSS.out.1 rfl
          obtain ⟨tA, htA⟩ : ∃ q, bs lA = q := ⟨_, rfl⟩
          rw [← hab]
          simp only [htA]
          have bq : (tA.toList == tA.toList) = true := by simp
          clear hab
          go_wp2_with (first
            | (go_at_call 30; (with_reducible refine (SX.out _ OX.out).mono ?_); rintro e v3 ⟨rfl, o⟩; have OC := hide (OC.out.trans0 o); have B1 := hide (B1.out.only o (by simp)); have B2 := hide (B2.out.only o (by simp)); clear x0 x1 x2 x3 x4 x5 x6 x7 x8 y0 y1 y2 y3 y4 y5 y6 y7 y8; have x0 := B1.out.cell 0; have x1 := B1.out.cell 1; have x2 := B1.out.cell 2; have x3 := B1.out.cell 3; have x4 := B1.out.cell 4; have x5 := B1.out.cell 5; have x6 := B1.out.cell 6; have x7 := B1.out.cell 7; have x8 := B1.out.cell 8; have y0 := B2.out.cell 0; have y1 := B2.out.cell 1; have y2 := B2.out.cell 2; have y3 := B2.out.cell 3; have y4 := B2.out.cell 4; have y5 := B2.out.cell 5; have y6 := B2.out.cell 6; have y7 := B2.out.cell 7; have y8 := B2.out.cell 8; have OX := hide (OX.out.trans0 o); have BX := hide (BX.out.only o (by simp)); clear z0 z1 z2 z3 z4 z5 z6 z7 z8; have z0 := BX.out.cell 0; have z1 := BX.out.cell 1; have z2 := BX.out.cell 2; have z3 := BX.out.cell 3; have z4 := BX.out.cell 4; have z5 := BX.out.cell 5; have z6 := BX.out.cell 6; have z7 := BX.out.cell 7; have z8 := BX.out.cell 8; clear o)
            | (go_at_call 30; (with_reducible refine (SMc.out _ OC.out).mono ?_); rintro e v3 ⟨rfl, o⟩; have OC := hide (OC.out.trans0 o); have B1 := hide (B1.out.only o (by simp)); have B2 := hide (B2.out.only o (by simp)); clear x0 x1 x2 x3 x4 x5 x6 x7 x8 y0 y1 y2 y3 y4 y5 y6 y7 y8; have x0 := B1.out.cell 0; have x1 := B1.out.cell 1; have x2 := B1.out.cell 2; have x3 := B1.out.cell 3; have x4 := B1.out.cell 4; have x5 := B1.out.cell 5; have x6 := B1.out.cell 6; have x7 := B1.out.cell 7; have x8 := B1.out.cell 8; have y0 := B2.out.cell 0; have y1 := B2.out.cell 1; have y2 := B2.out.cell 2; have y3 := B2.out.cell 3; have y4 := B2.out.cell 4; have y5 := B2.out.cell 5; have y6 := B2.out.cell 6; have y7 := B2.out.cell 7; have y8 := B2.out.cell 8; have OX := hide (OX.out.trans0 o); have BX := hide (BX.out.only o (by simp)); clear z0 z1 z2 z3 z4 z5 z6 z7 z8; have z0 := BX.out.cell 0; have z1 := BX.out.cell 1; have z2 := BX.out.cell 2; have z3 := BX.out.cell 3; have z4 := BX.out.cell 4; have z5 := BX.out.cell 5; have z6 := BX.out.cell 6; have z7 := BX.out.cell 7; have z8 := BX.out.cell 8; clear o)
            | (go_at_call 26; (with_reducible refine (RSc.out _ OC.out).mono ?_); rintro e v3 ⟨rfl, o⟩; have OC := hide (OC.out.trans0 o); have B1 := hide (B1.out.only o (by simp)); have B2 := hide (B2.out.only o (by simp)); clear x0 x1 x2 x3 x4 x5 x6 x7 x8 y0 y1 y2 y3 y4 y5 y6 y7 y8; have x0 := B1.out.cell 0; have x1 := B1.out.cell 1; have x2 := B1.out.cell 2; have x3 := B1.out.cell 3; have x4 := B1.out.cell 4; have x5 := B1.out.cell 5; have x6 := B1.out.cell 6; have x7 := B1.out.cell 7; have x8 := B1.out.cell 8; have y0 := B2.out.cell 0; have y1 := B2.out.cell 1; have y2 := B2.out.cell 2; have y3 := B2.out.cell 3; have y4 := B2.out.cell 4; have y5 := B2.out.cell 5; have y6 := B2.out.cell 6; have y7 := B2.out.cell 7; have y8 := B2.out.cell 8; have OX := hide (OX.out.trans0 o); have BX := hide (BX.out.only o (by simp)); clear z0 z1 z2 z3 z4 z5 z6 z7 z8; have z0 := BX.out.cell 0; have z1 := BX.out.cell 1; have z2 := BX.out.cell 2; have z3 := BX.out.cell 3; have z4 := BX.out.cell 4; have z5 := BX.out.cell 5; have z6 := BX.out.cell 6; have z7 := BX.out.cell 7; have z8 := BX.out.cell 8; clear o)
            | (go_at_call 12; (with_reducible refine (num_any _ _).mono ?_); rintro e v2 ⟨rfl, hw⟩; obtain rfl := hw.symm; clear hw))
          go_ret
          exact ⟨rfl, OC.out⟩
      · have hb0 : (ea + eb != 0) = true := by simpa using hzz
        go_wp2_with (first
          | (go_at_call 23; (with_reducible refine (TXA.out _ OC.out).mono ?_); rintro e v3 ⟨rfl, o⟩; have OC := hide (OC.out.trans0 o); have B1 := hide (B1.out.only o (by simp)); have B2 := hide (B2.out.only o (by simp)); clear x0 x1 x2 x3 x4 x5 x6 x7 x8 y0 y1 y2 y3 y4 y5 y6 y7 y8; have x0 := B1.out.cell 0; have x1 := B1.out.cell 1; have x2 := B1.out.cell 2; have x3 := B1.out.cell 3; have x4 := B1.out.cell 4; have x5 := B1.out.cell 5; have x6 := B1.out.cell 6; have x7 := B1.out.cell 7; have x8 := B1.out.cell 8; have y0 := B2.out.cell 0; have y1 := B2.out.cell 1; have y2 := B2.out.cell 2; have y3 := B2.out.cell 3; have y4 := B2.out.cell 4; have y5 := B2.out.cell 5; have y6 := B2.out.cell 6; have y7 := B2.out.cell 7; have y8 := B2.out.cell 8; clear o TXA)
          | (go_at_call 23; (with_reducible refine (TXB.out _ OC.out).mono ?_); rintro e v3 ⟨rfl, o⟩; have OC := hide (OC.out.trans0 o); have B1 := hide (B1.out.only o (by simp)); have B2 := hide (B2.out.only o (by simp)); clear x0 x1 x2 x3 x4 x5 x6 x7 x8 y0 y1 y2 y3 y4 y5 y6 y7 y8; have x0 := B1.out.cell 0; have x1 := B1.out.cell 1; have x2 := B1.out.cell 2; have x3 := B1.out.cell 3; have x4 := B1.out.cell 4; have x5 := B1.out.cell 5; have x6 := B1.out.cell 6; have x7 := B1.out.cell 7; have x8 := B1.out.cell 8; have y0 := B2.out.cell 0; have y1 := B2.out.cell 1; have y2 := B2.out.cell 2; have y3 := B2.out.cell 3; have y4 := B2.out.cell 4; have y5 := B2.out.cell 5; have y6 := B2.out.cell 6; have y7 := B2.out.cell 7; have y8 := B2.out.cell 8; clear o TXB)
          | (go_at_call 12; (with_reducible refine (num_any _ _).mono ?_); rintro e v2 ⟨rfl, hw⟩; obtain rfl := hw.symm; clear hw))
        go_ret
        exact ⟨rfl, OC.out⟩
    · go_wp2_with fail
      go_ret
      exact ⟨rfl, OC.out⟩
  · go_wp2_with fail
    go_ret
    exact ⟨rfl, OC.out⟩
end Go.Proofs.YteblhklclcjonaaGreatDoor
namespace Go.Proofs.YteblhklclcjonaaGreatDoor
open Go.RowKit
set_option linter.unusedVariables false
set_option linter.all false
set_option maxRecDepth 100000

theorem stext_x {s : Sc} {l : List UInt8} {w W : World} {Bs : Nat} {PA : Option Addr} {pk : Nat} {vs : List (Option Addr × Nat)} {TA : Option Addr} {tc : Nat} {EA : Option Addr} {ec : Nat} (hg : GoodS s) (o : Only [] w W) (he : Env w) (hp : Ps W Bs PA pk vs s.ps) (hq : Qs W Bs TA tc (s.ts.map bs)) (hes : Es W Bs EA ec s.es) (hl : scrB s = l) : Calls Tryz.prog 23 #[.agg #[.int .i64 (s.v 0), .int .i64 (s.v 1), .int .i64 (s.v 2), .int .i64 (s.v 3), .int .i64 (s.v 4), .int .i64 (s.v 5), .slice PA s.ps.length pk, .slice TA s.ts.length tc, .slice EA s.es.length ec]] W fun e w' => e = .returned (.tuple #[.string (bs l), .int .i64 0]) ∧ Only [] W w' := by
  have h := stext_good (jbOf s PA pk vs TA tc) EA s.es.length ec (evF s.es) W (he.only o) (jb_at hg hp hq) hes.at_ hes.lt_ (good_jbOf hg PA pk vs TA tc)
  rw [scrT_jbOf, hl] at h
  exact h
set_option maxHeartbeats 16000000 in
theorem sback_some (J : Jb) (A : Option Addr) (n c : Nat) (f : Nat → Ev) (K : Jb) (B : Option Addr) (m d : Nat) (g : Nat → Ev) (l : List UInt8) (w : World) (he : Env w) (hw4 : 4 ≤ w.heap.size) (hJ : JbAt w J) (hK : JbAt w K) (hJ6 : V64 J) (hK6 : V64 K) (hJi : ImmOk J) (hKi : ImmOk K) (hE : EvAt w A n f) (hF : EvAt w B m g) (hEl : EvLt A w.heap.size) (hFl : EvLt B w.heap.size) (hn : n ≤ maxLen) (hm : m ≤ maxLen) (hl : l.length ≤ 30000) (s : Sc) (hp : parF l = (some s, 0, 0)) : Calls Tryz.prog 6 #[.agg (sc9 J A n c), .agg (sc9 K B m d), .string (bs l)] w fun e w' => e = .returned (.bool true) ∧ Only [] w w' := by
  obtain ⟨sa, ea, hea, TXA, hga⟩ := text_ans J A n c f w he hJ hJi hE hEl hn
  obtain ⟨sb, eb, heb, TXB, hgb⟩ := text_ans K B m d g w he hK hKi hF hFl hm
  have TXA := hide TXA
  have TXB := hide TXB
  have KN := hide (fun W (o : Only [] w W) => sknown_any W (he.only o) (by have := o.size; omega))
  have MA := hide (fun W (o : Only [] w W) => much_any J A n c W (jb_only0 hJ o))
  have MB := hide (fun W (o : Only [] w W) => much_any K B m d W (jb_only0 hK o))
  have SMc := hide (fun W (o : Only [] w W) => (show Calls Tryz.prog 30 #[.agg (sc9 J A n c), .agg (sc9 K B m d)] W fun e w' => e = .returned (.bool (smB J n f K m g)) ∧ Only [] W w' from ssame_any J A n c f K B m d g W (he.only o) (jb_only0 hJ o) (jb_only0 hK o) hJ6 hK6 (hE.only0 o) (hF.only0 o) hn))
  have RSc := hide (fun W (o : Only [] w W) => (show Calls Tryz.prog 26 #[.agg (sc9 J A n c), .agg (sc9 K B m d)] W fun e w' => e = .returned (.bool (rsB J n f K m g)) ∧ Only [] W w' from rsame26_any J A n c f K B m d g W (jb_only0 hJ o) (jb_only0 hK o) (hE.only0 o) (hF.only0 o) hn))
  have HE := hide he
  have HJ := hide hJ
  have HEV := hide hE
  have HJ6 := hide hJ6
  have HGA := hide hga
  have HGB := hide hgb
  have OC := hide (((Only.refl [] w).alloc (.cells (sc9 J A n c) 54)).alloc (.cells (sc9 K B m d) 54))
  have B1 := hide ((Blk.new w 54 (sc9 J A n c)).alloc (.cells (sc9 K B m d) 54))
  have B2 := hide (Blk.new (w.alloc (.cells (sc9 J A n c) 54)) 54 (sc9 K B m d))
  simp only [World.size_alloc] at B2
  unfold sc9 at B1 B2 OC TXA TXB MA MB SMc RSc
  unfold sc9
  obtain ⟨X, hX⟩ : ∃ X, w.heap.size = X := ⟨_, rfl⟩
  rw [hX] at B1 B2
  have x0 := B1.out.cell 0; have x1 := B1.out.cell 1; have x2 := B1.out.cell 2; have x3 := B1.out.cell 3; have x4 := B1.out.cell 4; have x5 := B1.out.cell 5; have x6 := B1.out.cell 6; have x7 := B1.out.cell 7; have x8 := B1.out.cell 8; have y0 := B2.out.cell 0; have y1 := B2.out.cell 1; have y2 := B2.out.cell 2; have y3 := B2.out.cell 3; have y4 := B2.out.cell 4; have y5 := B2.out.cell 5; have y6 := B2.out.cell 6; have y7 := B2.out.cell 7; have y8 := B2.out.cell 8
  have hz : (bs l).size = l.length := bs_size l
  have d1 : decide ((l.length : Int) ≤ 30000) = true := decide_eq_true (by omega)
  have d2 : decide (l.length ≤ 30000) = true := decide_eq_true (by omega)
  have d3 : (l.length : Int) ≤ 30000 := by omega
  obtain ⟨hgs, hsl, -, -, -⟩ := par_inv hp
  have PT := hide (fun W (o : Only [] w W) => (show Calls Tryz.prog 29 #[.string (bs l)] W fun e w' => (∃ PA pk vs TA tc EA ec, e = .returned (.tuple #[.agg #[.int .i64 (s.v 0), .int .i64 (s.v 1), .int .i64 (s.v 2), .int .i64 (s.v 3), .int .i64 (s.v 4), .int .i64 (s.v 5), .slice PA s.ps.length pk, .slice TA s.ts.length tc, .slice EA s.es.length ec], .int .i64 0, .int .i64 0]) ∧ Ps w' (W.heap.size + 1) PA pk vs s.ps ∧ Qs w' (W.heap.size + 1) TA tc (s.ts.map bs) ∧ Es w' (W.heap.size + 1) EA ec s.es) ∧ Only [] W w' from by
    have h := sparse_any l (by omega) W (HE.out.only o) (by have := o.size; omega)
    rw [hp] at h
    exact h))
  have bq : ((bs l).toList == (bs l).toList) = true := by simp
  clear hp
  clear he hJ hK hJ6 hK6 hJi hKi hE hF hEl hFl hga hgb
  go_enter Tryz.func6, Tryz.ntmps6
  go_wp2_with (first
    | (go_at_call 7; (with_reducible refine (KN.out _ OC.out).mono ?_); rintro e v1 ⟨rfl, o⟩; have OC := hide (OC.out.trans0 o); have B1 := hide (B1.out.only o (by simp)); have B2 := hide (B2.out.only o (by simp)); clear x0 x1 x2 x3 x4 x5 x6 x7 x8 y0 y1 y2 y3 y4 y5 y6 y7 y8; have x0 := B1.out.cell 0; have x1 := B1.out.cell 1; have x2 := B1.out.cell 2; have x3 := B1.out.cell 3; have x4 := B1.out.cell 4; have x5 := B1.out.cell 5; have x6 := B1.out.cell 6; have x7 := B1.out.cell 7; have x8 := B1.out.cell 8; have y0 := B2.out.cell 0; have y1 := B2.out.cell 1; have y2 := B2.out.cell 2; have y3 := B2.out.cell 3; have y4 := B2.out.cell 4; have y5 := B2.out.cell 5; have y6 := B2.out.cell 6; have y7 := B2.out.cell 7; have y8 := B2.out.cell 8; clear o KN)
    | (go_at_call 29; (with_reducible refine (PT.out _ OC.out).mono ?_); rintro e v4 ⟨⟨PA, pk, vs, TA, tc, EA, ec, rfl, hps, hqs, hes⟩, o⟩; have oy := (Only.refl [] v4).alloc (.cells #[.int .i64 (s.v 0), .int .i64 (s.v 1), .int .i64 (s.v 2), .int .i64 (s.v 3), .int .i64 (s.v 4), .int .i64 (s.v 5), .slice PA s.ps.length pk, .slice TA s.ts.length tc, .slice EA s.es.length ec] 54); have BX := hide (Blk.new v4 54 #[.int .i64 (s.v 0), .int .i64 (s.v 1), .int .i64 (s.v 2), .int .i64 (s.v 3), .int .i64 (s.v 4), .int .i64 (s.v 5), .slice PA s.ps.length pk, .slice TA s.ts.length tc, .slice EA s.es.length ec]); have PSx := hide (hps.only0 oy); have QSx := hide (hqs.only0 oy); have ESx := hide (hes.only0 oy); have oz := o.trans0 oy; have OC := hide (OC.out.trans0 oz); have B1 := hide (B1.out.only oz (by simp)); have B2 := hide (B2.out.only oz (by simp)); clear x0 x1 x2 x3 x4 x5 x6 x7 x8 y0 y1 y2 y3 y4 y5 y6 y7 y8; have x0 := B1.out.cell 0; have x1 := B1.out.cell 1; have x2 := B1.out.cell 2; have x3 := B1.out.cell 3; have x4 := B1.out.cell 4; have x5 := B1.out.cell 5; have x6 := B1.out.cell 6; have x7 := B1.out.cell 7; have x8 := B1.out.cell 8; have y0 := B2.out.cell 0; have y1 := B2.out.cell 1; have y2 := B2.out.cell 2; have y3 := B2.out.cell 3; have y4 := B2.out.cell 4; have y5 := B2.out.cell 5; have y6 := B2.out.cell 6; have y7 := B2.out.cell 7; have y8 := B2.out.cell 8; have z0 := BX.out.cell 0; have z1 := BX.out.cell 1; have z2 := BX.out.cell 2; have z3 := BX.out.cell 3; have z4 := BX.out.cell 4; have z5 := BX.out.cell 5; have z6 := BX.out.cell 6; have z7 := BX.out.cell 7; have z8 := BX.out.cell 8; have TX := hide (show Calls Tryz.prog 23 #[.agg #[.int .i64 (s.v 0), .int .i64 (s.v 1), .int .i64 (s.v 2), .int .i64 (s.v 3), .int .i64 (s.v 4), .int .i64 (s.v 5), .slice PA s.ps.length pk, .slice TA s.ts.length tc, .slice EA s.es.length ec]] _ _ from stext_x hgs OC.out HE.out PSx.out QSx.out ESx.out hsl); clear o oy oz hps hqs hes PT)
    | (go_at_call 12; (with_reducible refine (num_any _ _).mono ?_); rintro e v2 ⟨rfl, hw⟩; obtain rfl := hw.symm; clear hw)
    | (go_at_call 23; (with_reducible refine TX.out.mono ?_); rintro e v3 ⟨rfl, o⟩; have OC := hide (OC.out.trans0 o); have B1 := hide (B1.out.only o (by simp)); have B2 := hide (B2.out.only o (by simp)); clear x0 x1 x2 x3 x4 x5 x6 x7 x8 y0 y1 y2 y3 y4 y5 y6 y7 y8; have x0 := B1.out.cell 0; have x1 := B1.out.cell 1; have x2 := B1.out.cell 2; have x3 := B1.out.cell 3; have x4 := B1.out.cell 4; have x5 := B1.out.cell 5; have x6 := B1.out.cell 6; have x7 := B1.out.cell 7; have x8 := B1.out.cell 8; have y0 := B2.out.cell 0; have y1 := B2.out.cell 1; have y2 := B2.out.cell 2; have y3 := B2.out.cell 3; have y4 := B2.out.cell 4; have y5 := B2.out.cell 5; have y6 := B2.out.cell 6; have y7 := B2.out.cell 7; have y8 := B2.out.cell 8; clear o TX BX PSx QSx ESx z0 z1 z2 z3 z4 z5 z6 z7 z8)
    | (go_at_call 20; (with_reducible refine (MA.out _ OC.out).mono ?_); rintro e v3 ⟨⟨bA, rfl⟩, o⟩; have OC := hide (OC.out.trans0 o); have B1 := hide (B1.out.only o (by simp)); have B2 := hide (B2.out.only o (by simp)); clear x0 x1 x2 x3 x4 x5 x6 x7 x8 y0 y1 y2 y3 y4 y5 y6 y7 y8; have x0 := B1.out.cell 0; have x1 := B1.out.cell 1; have x2 := B1.out.cell 2; have x3 := B1.out.cell 3; have x4 := B1.out.cell 4; have x5 := B1.out.cell 5; have x6 := B1.out.cell 6; have x7 := B1.out.cell 7; have x8 := B1.out.cell 8; have y0 := B2.out.cell 0; have y1 := B2.out.cell 1; have y2 := B2.out.cell 2; have y3 := B2.out.cell 3; have y4 := B2.out.cell 4; have y5 := B2.out.cell 5; have y6 := B2.out.cell 6; have y7 := B2.out.cell 7; have y8 := B2.out.cell 8; clear o MA; cases bA))
  · go_wp2_with (go_at_call 20; (with_reducible refine (MB.out _ OC.out).mono ?_); rintro e v3 ⟨⟨bB, rfl⟩, o⟩; have OC := hide (OC.out.trans0 o); have B1 := hide (B1.out.only o (by simp)); have B2 := hide (B2.out.only o (by simp)); clear x0 x1 x2 x3 x4 x5 x6 x7 x8 y0 y1 y2 y3 y4 y5 y6 y7 y8; have x0 := B1.out.cell 0; have x1 := B1.out.cell 1; have x2 := B1.out.cell 2; have x3 := B1.out.cell 3; have x4 := B1.out.cell 4; have x5 := B1.out.cell 5; have x6 := B1.out.cell 6; have x7 := B1.out.cell 7; have x8 := B1.out.cell 8; have y0 := B2.out.cell 0; have y1 := B2.out.cell 1; have y2 := B2.out.cell 2; have y3 := B2.out.cell 3; have y4 := B2.out.cell 4; have y5 := B2.out.cell 5; have y6 := B2.out.cell 6; have y7 := B2.out.cell 7; have y8 := B2.out.cell 8; clear o MB; cases bB)
    · by_cases hzz : ea + eb = 0
      · obtain rfl : ea = 0 := by omega
        obtain rfl : eb = 0 := by omega
        obtain ⟨gA, hsa⟩ := HGA.out rfl
        obtain ⟨gB, hsb⟩ := HGB.out rfl
        obtain ⟨v', hpar, hv', hgs⟩ := par_text gA
        have hll : (scrT J n f).length ≤ 1048576 := by rw [scrT_B]; exact scrB_all (good_sc gA)
        have hrs := sm_rs gA gB
        have hss := sm_scr gA gB
        rw [← hrs] at RSc
        have SR := sm_read (J := J) (n := n) (f := f) hv'
        obtain ⟨S, hS⟩ : ∃ S : Sc, ⟨v', psL J.pn J.P, tsL J.tn J.T, evL n f⟩ = S := ⟨_, rfl⟩
        rw [hS] at hpar hgs SR
        have hSe : S.es = evL n f := by rw [← hS]
        rw [← hSe] at SR
        have hSn : S.es.length ≤ maxLen := by have := hgs.el; unfold maxLen; omega
        obtain ⟨lA, hlA⟩ : ∃ q, scrT J n f = q := ⟨_, rfl⟩
        obtain ⟨lB, hlB⟩ : ∃ q, scrT K m g = q := ⟨_, rfl⟩
        rw [hlA] at hsa hpar hll hss
        rw [hlB] at hsb hss
        subst hsa hsb
        have PT2 := hide (fun W (o : Only [] w W) => (show Calls Tryz.prog 29 #[.string (bs lA)] W fun e w' => (∃ PA pk vs TA tc EA ec, e = .returned (.tuple #[.agg #[.int .i64 (S.v 0), .int .i64 (S.v 1), .int .i64 (S.v 2), .int .i64 (S.v 3), .int .i64 (S.v 4), .int .i64 (S.v 5), .slice PA S.ps.length pk, .slice TA S.ts.length tc, .slice EA S.es.length ec], .int .i64 0, .int .i64 0]) ∧ Ps w' (W.heap.size + 1) PA pk vs S.ps ∧ Qs w' (W.heap.size + 1) TA tc (S.ts.map bs) ∧ Es w' (W.heap.size + 1) EA ec S.es) ∧ Only [] W w' from by
          have h := sparse_any lA (by omega) W (HE.out.only o) (by have := o.size; omega)
          rw [hpar] at h
          exact h))
        have HGS := hide hgs
        have HSR := hide SR
        have HSN := hide hSn
        obtain ⟨sm, hsm⟩ : ∃ q, smB J n f K m g = q := ⟨_, rfl⟩
        rw [hsm] at SMc RSc hss
        have HSS := hide hss
        clear hlA hlB hS hgs SR hpar hv' hrs hsm hss hSe hSn gA gB HGA HGB hea heb hzz hll
        go_wp2_with (first
          | (go_at_call 23; (with_reducible refine (TXA.out _ OC.out).mono ?_); rintro e v3 ⟨rfl, o⟩; have OC := hide (OC.out.trans0 o); have B1 := hide (B1.out.only o (by simp)); have B2 := hide (B2.out.only o (by simp)); clear x0 x1 x2 x3 x4 x5 x6 x7 x8 y0 y1 y2 y3 y4 y5 y6 y7 y8; have x0 := B1.out.cell 0; have x1 := B1.out.cell 1; have x2 := B1.out.cell 2; have x3 := B1.out.cell 3; have x4 := B1.out.cell 4; have x5 := B1.out.cell 5; have x6 := B1.out.cell 6; have x7 := B1.out.cell 7; have x8 := B1.out.cell 8; have y0 := B2.out.cell 0; have y1 := B2.out.cell 1; have y2 := B2.out.cell 2; have y3 := B2.out.cell 3; have y4 := B2.out.cell 4; have y5 := B2.out.cell 5; have y6 := B2.out.cell 6; have y7 := B2.out.cell 7; have y8 := B2.out.cell 8; clear o TXA)
          | (go_at_call 23; (with_reducible refine (TXB.out _ OC.out).mono ?_); rintro e v3 ⟨rfl, o⟩; have OC := hide (OC.out.trans0 o); have B1 := hide (B1.out.only o (by simp)); have B2 := hide (B2.out.only o (by simp)); clear x0 x1 x2 x3 x4 x5 x6 x7 x8 y0 y1 y2 y3 y4 y5 y6 y7 y8; have x0 := B1.out.cell 0; have x1 := B1.out.cell 1; have x2 := B1.out.cell 2; have x3 := B1.out.cell 3; have x4 := B1.out.cell 4; have x5 := B1.out.cell 5; have x6 := B1.out.cell 6; have x7 := B1.out.cell 7; have x8 := B1.out.cell 8; have y0 := B2.out.cell 0; have y1 := B2.out.cell 1; have y2 := B2.out.cell 2; have y3 := B2.out.cell 3; have y4 := B2.out.cell 4; have y5 := B2.out.cell 5; have y6 := B2.out.cell 6; have y7 := B2.out.cell 7; have y8 := B2.out.cell 8; clear o TXB)
          | (go_at_call 29; (with_reducible refine (PT2.out _ OC.out).mono ?_); rintro e v5 ⟨⟨PA, pk, vs, TA, tc, EA, ec, rfl, hps, hqs, hes⟩, o⟩; have oy := (Only.refl [] v5).alloc (.cells #[.int .i64 (S.v 0), .int .i64 (S.v 1), .int .i64 (S.v 2), .int .i64 (S.v 3), .int .i64 (S.v 4), .int .i64 (S.v 5), .slice PA S.ps.length pk, .slice TA S.ts.length tc, .slice EA S.es.length ec] 54); have BX := hide (Blk.new v5 54 #[.int .i64 (S.v 0), .int .i64 (S.v 1), .int .i64 (S.v 2), .int .i64 (S.v 3), .int .i64 (S.v 4), .int .i64 (S.v 5), .slice PA S.ps.length pk, .slice TA S.ts.length tc, .slice EA S.es.length ec]); have PSx := hide (hps.only0 oy); have QSx := hide (hqs.only0 oy); have ESx := hide (hes.only0 oy); have oz := o.trans0 oy; have OC := hide (OC.out.trans0 oz); have B1 := hide (B1.out.only oz (by simp)); have B2 := hide (B2.out.only oz (by simp)); clear x0 x1 x2 x3 x4 x5 x6 x7 x8 y0 y1 y2 y3 y4 y5 y6 y7 y8; have x0 := B1.out.cell 0; have x1 := B1.out.cell 1; have x2 := B1.out.cell 2; have x3 := B1.out.cell 3; have x4 := B1.out.cell 4; have x5 := B1.out.cell 5; have x6 := B1.out.cell 6; have x7 := B1.out.cell 7; have x8 := B1.out.cell 8; have y0 := B2.out.cell 0; have y1 := B2.out.cell 1; have y2 := B2.out.cell 2; have y3 := B2.out.cell 3; have y4 := B2.out.cell 4; have y5 := B2.out.cell 5; have y6 := B2.out.cell 6; have y7 := B2.out.cell 7; have y8 := B2.out.cell 8; have z0 := BX.out.cell 0; have z1 := BX.out.cell 1; have z2 := BX.out.cell 2; have z3 := BX.out.cell 3; have z4 := BX.out.cell 4; have z5 := BX.out.cell 5; have z6 := BX.out.cell 6; have z7 := BX.out.cell 7; have z8 := BX.out.cell 8; clear o oy oz hps hqs hes PT2)
          | (go_at_call 12; (with_reducible refine (num_any _ _).mono ?_); rintro e v2 ⟨rfl, hw⟩; obtain rfl := hw.symm; clear hw))
        obtain ⟨V5, hV5⟩ : ∃ W, v5.alloc (.cells #[.int .i64 (S.v 0), .int .i64 (S.v 1), .int .i64 (S.v 2), .int .i64 (S.v 3), .int .i64 (S.v 4), .int .i64 (S.v 5), .slice PA S.ps.length pk, .slice TA S.ts.length tc, .slice EA S.es.length ec] 54) = W := ⟨_, rfl⟩
        rw [hV5] at B1 B2 OC BX PSx QSx ESx x0 x1 x2 x3 x4 x5 x6 x7 x8 y0 y1 y2 y3 y4 y5 y6 y7 y8 z0 z1 z2 z3 z4 z5 z6 z7 z8 ⊢
        obtain ⟨Y5, hY5⟩ : ∃ y, v5.heap.size = y := ⟨_, rfl⟩
        rw [hY5] at BX z0 z1 z2 z3 z4 z5 z6 z7 z8 ⊢
        have OX := hide (Only.refl [] V5)
        have OC5 := OC
        have SX := hide (fun W (o : Only [] V5 W) => (show Calls Tryz.prog 30 #[.agg #[.int .i64 (S.v 0), .int .i64 (S.v 1), .int .i64 (S.v 2), .int .i64 (S.v 3), .int .i64 (S.v 4), .int .i64 (S.v 5), .slice PA S.ps.length pk, .slice TA S.ts.length tc, .slice EA S.es.length ec], .agg #[.int .i64 J.t, .int .i64 J.o, .int .i64 J.s, .int .i64 J.q, .int .i64 J.m, .int .i64 J.p, .slice J.pA J.pn J.pc, .slice J.tA J.tn J.tc, .slice A n c]] W fun e w' => e = .returned (.bool true) ∧ Only [] W w' from by
          have h := ssame_any (jbOf S PA pk vs TA tc) EA S.es.length ec (evF S.es) J A n c f W (HE.out.only (OC5.out.trans0 o)) (jb_only0 (jb_at HGS.out PSx.out QSx.out) o) (jb_only0 HJ.out (OC5.out.trans0 o)) (v64_good HGS.out PA pk vs TA tc) HJ6.out ((ESx.out.at_).only0 o) (HEV.out.only0 (OC5.out.trans0 o)) HSN.out
          rw [show (hdB (jbOf S PA pk vs TA tc) J && ((psB (jbOf S PA pk vs TA tc) J && tsB (jbOf S PA pk vs TA tc) J) && esB S.es.length n (evF S.es) f)) = true from HSR.out PA pk vs TA tc] at h
          exact h))
        clear hV5 hY5
        cases sm
        · have bq := bytes_ne (x := bs lA) (y := bs lB) (fun h => by have := HSS.out.2 (bs_inj h); cases this)
          obtain ⟨tA, htA⟩ : ∃ q, bs lA = q := ⟨_, rfl⟩
          obtain ⟨tB, htB⟩ : ∃ q, bs lB = q := ⟨_, rfl⟩
          rw [htA, htB] at bq
          simp only [htA, htB]
          go_wp2_with (first
            | (go_at_call 30; (with_reducible refine (SX.out _ OX.out).mono ?_); rintro e v3 ⟨rfl, o⟩; have OC := hide (OC.out.trans0 o); have B1 := hide (B1.out.only o (by simp)); have B2 := hide (B2.out.only o (by simp)); clear x0 x1 x2 x3 x4 x5 x6 x7 x8 y0 y1 y2 y3 y4 y5 y6 y7 y8; have x0 := B1.out.cell 0; have x1 := B1.out.cell 1; have x2 := B1.out.cell 2; have x3 := B1.out.cell 3; have x4 := B1.out.cell 4; have x5 := B1.out.cell 5; have x6 := B1.out.cell 6; have x7 := B1.out.cell 7; have x8 := B1.out.cell 8; have y0 := B2.out.cell 0; have y1 := B2.out.cell 1; have y2 := B2.out.cell 2; have y3 := B2.out.cell 3; have y4 := B2.out.cell 4; have y5 := B2.out.cell 5; have y6 := B2.out.cell 6; have y7 := B2.out.cell 7; have y8 := B2.out.cell 8; have OX := hide (OX.out.trans0 o); have BX := hide (BX.out.only o (by simp)); clear z0 z1 z2 z3 z4 z5 z6 z7 z8; have z0 := BX.out.cell 0; have z1 := BX.out.cell 1; have z2 := BX.out.cell 2; have z3 := BX.out.cell 3; have z4 := BX.out.cell 4; have z5 := BX.out.cell 5; have z6 := BX.out.cell 6; have z7 := BX.out.cell 7; have z8 := BX.out.cell 8; clear o)
            | (go_at_call 30; (with_reducible refine (SMc.out _ OC.out).mono ?_); rintro e v3 ⟨rfl, o⟩; have OC := hide (OC.out.trans0 o); have B1 := hide (B1.out.only o (by simp)); have B2 := hide (B2.out.only o (by simp)); clear x0 x1 x2 x3 x4 x5 x6 x7 x8 y0 y1 y2 y3 y4 y5 y6 y7 y8; have x0 := B1.out.cell 0; have x1 := B1.out.cell 1; have x2 := B1.out.cell 2; have x3 := B1.out.cell 3; have x4 := B1.out.cell 4; have x5 := B1.out.cell 5; have x6 := B1.out.cell 6; have x7 := B1.out.cell 7; have x8 := B1.out.cell 8; have y0 := B2.out.cell 0; have y1 := B2.out.cell 1; have y2 := B2.out.cell 2; have y3 := B2.out.cell 3; have y4 := B2.out.cell 4; have y5 := B2.out.cell 5; have y6 := B2.out.cell 6; have y7 := B2.out.cell 7; have y8 := B2.out.cell 8; have OX := hide (OX.out.trans0 o); have BX := hide (BX.out.only o (by simp)); clear z0 z1 z2 z3 z4 z5 z6 z7 z8; have z0 := BX.out.cell 0; have z1 := BX.out.cell 1; have z2 := BX.out.cell 2; have z3 := BX.out.cell 3; have z4 := BX.out.cell 4; have z5 := BX.out.cell 5; have z6 := BX.out.cell 6; have z7 := BX.out.cell 7; have z8 := BX.out.cell 8; clear o)
            | (go_at_call 26; (with_reducible refine (RSc.out _ OC.out).mono ?_); rintro e v3 ⟨rfl, o⟩; have OC := hide (OC.out.trans0 o); have B1 := hide (B1.out.only o (by simp)); have B2 := hide (B2.out.only o (by simp)); clear x0 x1 x2 x3 x4 x5 x6 x7 x8 y0 y1 y2 y3 y4 y5 y6 y7 y8; have x0 := B1.out.cell 0; have x1 := B1.out.cell 1; have x2 := B1.out.cell 2; have x3 := B1.out.cell 3; have x4 := B1.out.cell 4; have x5 := B1.out.cell 5; have x6 := B1.out.cell 6; have x7 := B1.out.cell 7; have x8 := B1.out.cell 8; have y0 := B2.out.cell 0; have y1 := B2.out.cell 1; have y2 := B2.out.cell 2; have y3 := B2.out.cell 3; have y4 := B2.out.cell 4; have y5 := B2.out.cell 5; have y6 := B2.out.cell 6; have y7 := B2.out.cell 7; have y8 := B2.out.cell 8; have OX := hide (OX.out.trans0 o); have BX := hide (BX.out.only o (by simp)); clear z0 z1 z2 z3 z4 z5 z6 z7 z8; have z0 := BX.out.cell 0; have z1 := BX.out.cell 1; have z2 := BX.out.cell 2; have z3 := BX.out.cell 3; have z4 := BX.out.cell 4; have z5 := BX.out.cell 5; have z6 := BX.out.cell 6; have z7 := BX.out.cell 7; have z8 := BX.out.cell 8; clear o)
            | (go_at_call 12; (with_reducible refine (num_any _ _).mono ?_); rintro e v2 ⟨rfl, hw⟩; obtain rfl := hw.symm; clear hw))
          go_ret
          exact ⟨rfl, OC.out⟩
        · have hab : lA = lB := HSS.out.1 rfl
          obtain ⟨tA, htA⟩ : ∃ q, bs lA = q := ⟨_, rfl⟩
          rw [← hab]
          simp only [htA]
          have bq : (tA.toList == tA.toList) = true := by simp
          clear hab
          go_wp2_with (first
            | (go_at_call 30; (with_reducible refine (SX.out _ OX.out).mono ?_); rintro e v3 ⟨rfl, o⟩; have OC := hide (OC.out.trans0 o); have B1 := hide (B1.out.only o (by simp)); have B2 := hide (B2.out.only o (by simp)); clear x0 x1 x2 x3 x4 x5 x6 x7 x8 y0 y1 y2 y3 y4 y5 y6 y7 y8; have x0 := B1.out.cell 0; have x1 := B1.out.cell 1; have x2 := B1.out.cell 2; have x3 := B1.out.cell 3; have x4 := B1.out.cell 4; have x5 := B1.out.cell 5; have x6 := B1.out.cell 6; have x7 := B1.out.cell 7; have x8 := B1.out.cell 8; have y0 := B2.out.cell 0; have y1 := B2.out.cell 1; have y2 := B2.out.cell 2; have y3 := B2.out.cell 3; have y4 := B2.out.cell 4; have y5 := B2.out.cell 5; have y6 := B2.out.cell 6; have y7 := B2.out.cell 7; have y8 := B2.out.cell 8; have OX := hide (OX.out.trans0 o); have BX := hide (BX.out.only o (by simp)); clear z0 z1 z2 z3 z4 z5 z6 z7 z8; have z0 := BX.out.cell 0; have z1 := BX.out.cell 1; have z2 := BX.out.cell 2; have z3 := BX.out.cell 3; have z4 := BX.out.cell 4; have z5 := BX.out.cell 5; have z6 := BX.out.cell 6; have z7 := BX.out.cell 7; have z8 := BX.out.cell 8; clear o)
            | (go_at_call 30; (with_reducible refine (SMc.out _ OC.out).mono ?_); rintro e v3 ⟨rfl, o⟩; have OC := hide (OC.out.trans0 o); have B1 := hide (B1.out.only o (by simp)); have B2 := hide (B2.out.only o (by simp)); clear x0 x1 x2 x3 x4 x5 x6 x7 x8 y0 y1 y2 y3 y4 y5 y6 y7 y8; have x0 := B1.out.cell 0; have x1 := B1.out.cell 1; have x2 := B1.out.cell 2; have x3 := B1.out.cell 3; have x4 := B1.out.cell 4; have x5 := B1.out.cell 5; have x6 := B1.out.cell 6; have x7 := B1.out.cell 7; have x8 := B1.out.cell 8; have y0 := B2.out.cell 0; have y1 := B2.out.cell 1; have y2 := B2.out.cell 2; have y3 := B2.out.cell 3; have y4 := B2.out.cell 4; have y5 := B2.out.cell 5; have y6 := B2.out.cell 6; have y7 := B2.out.cell 7; have y8 := B2.out.cell 8; have OX := hide (OX.out.trans0 o); have BX := hide (BX.out.only o (by simp)); clear z0 z1 z2 z3 z4 z5 z6 z7 z8; have z0 := BX.out.cell 0; have z1 := BX.out.cell 1; have z2 := BX.out.cell 2; have z3 := BX.out.cell 3; have z4 := BX.out.cell 4; have z5 := BX.out.cell 5; have z6 := BX.out.cell 6; have z7 := BX.out.cell 7; have z8 := BX.out.cell 8; clear o)
            | (go_at_call 26; (with_reducible refine (RSc.out _ OC.out).mono ?_); rintro e v3 ⟨rfl, o⟩; have OC := hide (OC.out.trans0 o); have B1 := hide (B1.out.only o (by simp)); have B2 := hide (B2.out.only o (by simp)); clear x0 x1 x2 x3 x4 x5 x6 x7 x8 y0 y1 y2 y3 y4 y5 y6 y7 y8; have x0 := B1.out.cell 0; have x1 := B1.out.cell 1; have x2 := B1.out.cell 2; have x3 := B1.out.cell 3; have x4 := B1.out.cell 4; have x5 := B1.out.cell 5; have x6 := B1.out.cell 6; have x7 := B1.out.cell 7; have x8 := B1.out.cell 8; have y0 := B2.out.cell 0; have y1 := B2.out.cell 1; have y2 := B2.out.cell 2; have y3 := B2.out.cell 3; have y4 := B2.out.cell 4; have y5 := B2.out.cell 5; have y6 := B2.out.cell 6; have y7 := B2.out.cell 7; have y8 := B2.out.cell 8; have OX := hide (OX.out.trans0 o); have BX := hide (BX.out.only o (by simp)); clear z0 z1 z2 z3 z4 z5 z6 z7 z8; have z0 := BX.out.cell 0; have z1 := BX.out.cell 1; have z2 := BX.out.cell 2; have z3 := BX.out.cell 3; have z4 := BX.out.cell 4; have z5 := BX.out.cell 5; have z6 := BX.out.cell 6; have z7 := BX.out.cell 7; have z8 := BX.out.cell 8; clear o)
            | (go_at_call 12; (with_reducible refine (num_any _ _).mono ?_); rintro e v2 ⟨rfl, hw⟩; obtain rfl := hw.symm; clear hw))
          go_ret
          exact ⟨rfl, OC.out⟩
      · have hb0 : (ea + eb != 0) = true := by simpa using hzz
        go_wp2_with (first
          | (go_at_call 23; (with_reducible refine (TXA.out _ OC.out).mono ?_); rintro e v3 ⟨rfl, o⟩; have OC := hide (OC.out.trans0 o); have B1 := hide (B1.out.only o (by simp)); have B2 := hide (B2.out.only o (by simp)); clear x0 x1 x2 x3 x4 x5 x6 x7 x8 y0 y1 y2 y3 y4 y5 y6 y7 y8; have x0 := B1.out.cell 0; have x1 := B1.out.cell 1; have x2 := B1.out.cell 2; have x3 := B1.out.cell 3; have x4 := B1.out.cell 4; have x5 := B1.out.cell 5; have x6 := B1.out.cell 6; have x7 := B1.out.cell 7; have x8 := B1.out.cell 8; have y0 := B2.out.cell 0; have y1 := B2.out.cell 1; have y2 := B2.out.cell 2; have y3 := B2.out.cell 3; have y4 := B2.out.cell 4; have y5 := B2.out.cell 5; have y6 := B2.out.cell 6; have y7 := B2.out.cell 7; have y8 := B2.out.cell 8; clear o TXA)
          | (go_at_call 23; (with_reducible refine (TXB.out _ OC.out).mono ?_); rintro e v3 ⟨rfl, o⟩; have OC := hide (OC.out.trans0 o); have B1 := hide (B1.out.only o (by simp)); have B2 := hide (B2.out.only o (by simp)); clear x0 x1 x2 x3 x4 x5 x6 x7 x8 y0 y1 y2 y3 y4 y5 y6 y7 y8; have x0 := B1.out.cell 0; have x1 := B1.out.cell 1; have x2 := B1.out.cell 2; have x3 := B1.out.cell 3; have x4 := B1.out.cell 4; have x5 := B1.out.cell 5; have x6 := B1.out.cell 6; have x7 := B1.out.cell 7; have x8 := B1.out.cell 8; have y0 := B2.out.cell 0; have y1 := B2.out.cell 1; have y2 := B2.out.cell 2; have y3 := B2.out.cell 3; have y4 := B2.out.cell 4; have y5 := B2.out.cell 5; have y6 := B2.out.cell 6; have y7 := B2.out.cell 7; have y8 := B2.out.cell 8; clear o TXB)
          | (go_at_call 12; (with_reducible refine (num_any _ _).mono ?_); rintro e v2 ⟨rfl, hw⟩; obtain rfl := hw.symm; clear hw))
        go_ret
        exact ⟨rfl, OC.out⟩
    · go_wp2_with fail
      go_ret
      exact ⟨rfl, OC.out⟩
  · go_wp2_with fail
    go_ret
    exact ⟨rfl, OC.out⟩
end Go.Proofs.YteblhklclcjonaaGreatDoor
namespace Go.Proofs.YteblhklclcjonaaGreatDoor
open Go.RowKit
set_option linter.unusedVariables false
set_option linter.all false
/-- ScriptBack, joined. -/
theorem sback_walk (J : Jb) (A : Option Addr) (n c : Nat) (f : Nat → Ev) (K : Jb) (B : Option Addr) (m d : Nat) (g : Nat → Ev) (t : ByteArray) (w : World) (he : Env w) (hw4 : 4 ≤ w.heap.size) (hJ : JbAt w J) (hK : JbAt w K) (hJ6 : V64 J) (hK6 : V64 K) (hJi : ImmOk J) (hKi : ImmOk K) (hE : EvAt w A n f) (hF : EvAt w B m g) (hEl : EvLt A w.heap.size) (hFl : EvLt B w.heap.size) (hn : n ≤ maxLen) (hm : m ≤ maxLen) : Calls Tryz.prog 6 #[.agg (sc9 J A n c), .agg (sc9 K B m d), .string t] w fun e w' => e = .returned (.bool true) ∧ Only [] w w' := by
  rw [← bs_of t]
  by_cases hl : t.data.toList.length ≤ 30000
  · obtain ⟨s, k, er, hp⟩ : ∃ s k er, parF t.data.toList = (s, k, er) := ⟨_, _, _, rfl⟩
    cases s with
    | none => exact sback_none J A n c f K B m d g _ w he hw4 hJ hK hJ6 hK6 hJi hKi hE hF hEl hFl hn hm hl k er hp
    | some s =>
      obtain ⟨-, -, rfl, rfl, -⟩ := par_inv hp
      exact sback_some J A n c f K B m d g _ w he hw4 hJ hK hJ6 hK6 hJi hKi hE hF hEl hFl hn hm hl s hp
  · exact sback_long J A n c f K B m d g _ w he hw4 hJ hK hJ6 hK6 hJi hKi hE hF hEl hFl hn hm (by omega)
end Go.Proofs.YteblhklclcjonaaGreatDoor
