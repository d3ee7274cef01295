/- Script: the walk of the document's Unline. Condition: Env; a text of at most 2000000 bytes. -/
import Derived.Test.YteblhklclcjonaaGreatDoorSe4
import Derived.Test.YteblhklclcjonaaGreatDoorCdM
namespace Go.Proofs.YteblhklclcjonaaGreatDoor
open Go.RowKit
set_option linter.unusedVariables false
set_option linter.all false
set_option maxRecDepth 20000

/-- What the document's Unline answers. -/
theorem str_ne (l a : List UInt8) (h : l ≠ a) : ((bs l).toList == (bs a).toList) = false ∧ ¬ (bs l).toList = (bs a).toList ∧ ((bs l).toList != (bs a).toList) = true := by
  have e := bs_eq l a
  have h1 : ((bs l).toList == (bs a).toList) = false := by rw [e]; simpa using h
  exact ⟨h1, by simpa using h1, by simp [bne]; simpa using h1⟩
set_option maxHeartbeats 4000000 in
theorem runline_any (s : List UInt8) (hs : s.length ≤ 2000000) (w : World) (he : Env w) : Calls Tryz.prog 10 #[.string (bs s)] w fun e w' => e = .returned (unlV (unlF s)) ∧ Only [] w w' := by
  obtain ⟨X, hX⟩ : ∃ X, w.heap.size = X := ⟨_, rfl⟩
  have B0 := hide (Blk.new w 26 #[.int .i64 0, .int .i64 0, .int .i64 0])
  have O0 := hide ((Only.refl [] w).alloc (.cells #[.int .i64 0, .int .i64 0, .int .i64 0] 26))
  rw [hX] at B0
  have CT := fun W => rcut_any s (by omega) W
  have hcl := cut_le 32 s
  have hF : unlF s = if mayS (strW (kindW (cutAt 32 s).1) (atoiV (cutAt 32 s).2.1)) = true ∧ lineT (strW (kindW (cutAt 32 s).1) (atoiV (cutAt 32 s).2.1)) = s then some (strW (kindW (cutAt 32 s).1) (atoiV (cutAt 32 s).2.1)) else none := rfl
  obtain ⟨wd, hwd⟩ : ∃ x, (cutAt 32 s).1 = x := ⟨_, rfl⟩
  obtain ⟨r0, hr0⟩ : ∃ x, (cutAt 32 s).2.1 = x := ⟨_, rfl⟩
  rw [hwd, hr0] at CT
  rw [hwd, hr0] at hcl hF
  have AT := fun W (o : Only [] w W) => atoi_any (bs r0) (by rw [bs_size]; omega) W (he.only o)
  rw [bs_list] at AT
  have hab := atoiV_bounds r0
  obtain ⟨n, hn⟩ : ∃ n, atoiV r0 = n := ⟨_, rfl⟩
  rw [hn] at AT hF hab
  have AT := hide AT
  have HF := hide hF
  have HE := hide he
  clear he hF hwd hr0 hn
  have K : (wd = [114, 117, 110] ∨ wd = [116, 105, 99, 107] ∨ wd = [105, 110, 116, 101, 114, 114, 117, 112, 116]) ∨ (wd ≠ [114, 117, 110] ∧ wd ≠ [116, 105, 99, 107] ∧ wd ≠ [105, 110, 116, 101, 114, 114, 117, 112, 116]) := by
    by_cases h1 : wd = [114, 117, 110]
    · exact .inl (.inl h1)
    · by_cases h2 : wd = [116, 105, 99, 107]
      · exact .inl (.inr (.inl h2))
      · by_cases h3 : wd = [105, 110, 116, 101, 114, 114, 117, 112, 116]
        · exact .inl (.inr (.inr h3))
        · exact .inr ⟨h1, h2, h3⟩
  rcases K with (rfl | rfl | rfl) | ⟨h1, h2, h3⟩
  · -- the word of number 1
    have HF1 := hide (show unlF s = if mayS ⟨⟨1, 0⟩, n⟩ = true ∧ lineT ⟨⟨1, 0⟩, n⟩ = s then some ⟨⟨1, 0⟩, n⟩ else none from HF.out)
    have CT := hide (show ∀ W, Calls Tryz.prog 35 #[.string (bs s)] W fun e w' => e = .returned (.tuple #[.string ⟨#[114, 117, 110]⟩, .string (bs r0)]) ∧ Only [] W w' from CT)
    have MS := fun W => rmays_any (1) (0) (n) W
    have LN := fun W (o : Only [] w W) => rsline_any (1) (0) (n) (by omega) (by omega) (by omega) (by omega) W (HE.out.only o)
    clear HF
    cases hm : mayS ⟨⟨1, 0⟩, n⟩ with
    | false =>
      have HF := hide (show unlF s = none by rw [HF1.out, if_neg (fun h => by rw [hm] at h; exact absurd h.1 (by decide))])
      rw [hm] at MS
      have MS := hide MS
      clear HF1 hm LN
      go_enter Tryz.func10, Tryz.ntmps10
      go_wp2_with (first
        | (go_at_call 35; (with_reducible refine (CT.out _).mono ?_); rintro e w1 ⟨rfl, o⟩; have P1 := hide o; clear o)
        | (go_at_call 33; (with_reducible refine (AT.out _ (O0.out.trans0 P1.out)).mono ?_); rintro e w2 ⟨⟨er, rfl⟩, o⟩; have BN := Blk.new w2 26 #[.int .i64 1, .int .i64 0, .int .i64 n]; obtain ⟨Y, hY⟩ : ∃ Y, w2.heap.size = Y := ⟨_, rfl⟩; simp only [hY] at BN; have k0 := BN.cell 0; have k1 := BN.cell 1; have k2 := BN.cell 2; have BY := hide BN; have Q3 := hide ((P1.out.trans0 o).alloc (.cells #[.int .i64 1, .int .i64 0, .int .i64 n] 26)); clear BN o; try simp only [hY])
        | (go_at_call 18; (with_reducible refine (MS.out _).mono ?_); rintro e w4 ⟨rfl, o⟩; have BX := B0.out.only (Q3.out.trans0 o) (by simp); have x0 := BX.cell 0; have x1 := BX.cell 1; have x2 := BX.cell 2; have g0 := BX.frozen 0; have g1 := BX.frozen 1; have g2 := BX.frozen 2; have BXH := hide BX; have BY4 := BY.out.only o (by simp); have BYH := hide BY4; have y0 := BY4.cell 0; have y1 := BY4.cell 1; have y2 := BY4.cell 2; have Q4 := hide (Q3.out.trans0 o); have O4 := hide (O0.out.trans0 (Q3.out.trans0 o)); clear o BX BY4))
      have BF := ((BXH.out.set_ 0 (.int .i64 (0))).set_ 1 (.int .i64 (0))).set_ 2 (.int .i64 (0))
      refine bodyPost_ret (v := .tuple #[.agg #[.int .i64 0, .int .i64 0, .int .i64 0], .int .i64 4]) (results_cell2 Tryz.results10 rfl rfl (load26 (a := .int .i64 (0)) (b := .int .i64 (0)) (c := .int .i64 (0)) (by simpa using BF))) rfl ⟨?_, ?_⟩
      · rw [HF.out]; rfl
      · exact ((O4.out.setCell (p := ⟨X, 0, none⟩) (.inr (by simp only; omega)) _).setCell (p := ⟨X, 1, none⟩) (.inr (by simp only; omega)) _).setCell (p := ⟨X, 2, none⟩) (.inr (by simp only; omega)) _
    | true =>
      rw [hm] at MS
      have MS := hide MS
      by_cases hl : lineT ⟨⟨1, 0⟩, n⟩ = s
      · have HF := hide (show unlF s = some ⟨⟨1, 0⟩, n⟩ by rw [HF1.out, if_pos ⟨hm, hl⟩])
        rw [hl] at LN
        have LN := hide LN
        clear HF1 hm hl
        go_enter Tryz.func10, Tryz.ntmps10
        go_wp2_with (first
          | (go_at_call 35; (with_reducible refine (CT.out _).mono ?_); rintro e w1 ⟨rfl, o⟩; have P1 := hide o; clear o)
          | (go_at_call 33; (with_reducible refine (AT.out _ (O0.out.trans0 P1.out)).mono ?_); rintro e w2 ⟨⟨er, rfl⟩, o⟩; have BN := Blk.new w2 26 #[.int .i64 1, .int .i64 0, .int .i64 n]; obtain ⟨Y, hY⟩ : ∃ Y, w2.heap.size = Y := ⟨_, rfl⟩; simp only [hY] at BN; have k0 := BN.cell 0; have k1 := BN.cell 1; have k2 := BN.cell 2; have BY := hide BN; have Q3 := hide ((P1.out.trans0 o).alloc (.cells #[.int .i64 1, .int .i64 0, .int .i64 n] 26)); clear BN o; try simp only [hY])
          | (go_at_call 18; (with_reducible refine (MS.out _).mono ?_); rintro e w4 ⟨rfl, o⟩; have BX := B0.out.only (Q3.out.trans0 o) (by simp); have x0 := BX.cell 0; have x1 := BX.cell 1; have x2 := BX.cell 2; have g0 := BX.frozen 0; have g1 := BX.frozen 1; have g2 := BX.frozen 2; have BXH := hide BX; have BY4 := BY.out.only o (by simp); have BYH := hide BY4; have y0 := BY4.cell 0; have y1 := BY4.cell 1; have y2 := BY4.cell 2; have Q4 := hide (Q3.out.trans0 o); have O4 := hide (O0.out.trans0 (Q3.out.trans0 o)); clear o BX BY4)
          | (go_at_call 19; (with_reducible refine (LN.out _ O4.out).mono ?_); rintro e w5 ⟨rfl, o⟩; have BX := B0.out.only (Q4.out.trans0 o) (by simp); have x0 := BX.cell 0; have x1 := BX.cell 1; have x2 := BX.cell 2; have g0 := BX.frozen 0; have g1 := BX.frozen 1; have g2 := BX.frozen 2; have BXH := hide BX; have BY4 := BYH.out.only o (by simp); have y0 := BY4.cell 0; have y1 := BY4.cell 1; have y2 := BY4.cell 2; have O4 := hide (O4.out.trans0 o); clear o BX BY4))
        have BF := ((BXH.out.set_ 0 (.int .i64 (1))).set_ 1 (.int .i64 (0))).set_ 2 (.int .i64 (n))
        refine bodyPost_ret (v := .tuple #[.agg #[.int .i64 1, .int .i64 0, .int .i64 n], .int .i64 0]) (results_cell2 Tryz.results10 rfl rfl (load26 (a := .int .i64 (1)) (b := .int .i64 (0)) (c := .int .i64 (n)) (by simpa using BF))) rfl ⟨?_, ?_⟩
        · rw [HF.out]; rfl
        · exact ((O4.out.setCell (p := ⟨X, 0, none⟩) (.inr (by simp only; omega)) _).setCell (p := ⟨X, 1, none⟩) (.inr (by simp only; omega)) _).setCell (p := ⟨X, 2, none⟩) (.inr (by simp only; omega)) _
      · have HF := hide (show unlF s = none by rw [HF1.out, if_neg (fun h => hl h.2)])
        have bn3 := str_ne _ _ hl
        obtain ⟨tl, htl⟩ : ∃ x, bs (lineT ⟨⟨1, 0⟩, n⟩) = x := ⟨_, rfl⟩
        rw [htl] at LN bn3
        have LN := hide LN
        obtain ⟨bn1, bn2, bn4⟩ := bn3
        clear HF1 hm hl htl
        go_enter Tryz.func10, Tryz.ntmps10
        go_wp2_with (first
          | (go_at_call 35; (with_reducible refine (CT.out _).mono ?_); rintro e w1 ⟨rfl, o⟩; have P1 := hide o; clear o)
          | (go_at_call 33; (with_reducible refine (AT.out _ (O0.out.trans0 P1.out)).mono ?_); rintro e w2 ⟨⟨er, rfl⟩, o⟩; have BN := Blk.new w2 26 #[.int .i64 1, .int .i64 0, .int .i64 n]; obtain ⟨Y, hY⟩ : ∃ Y, w2.heap.size = Y := ⟨_, rfl⟩; simp only [hY] at BN; have k0 := BN.cell 0; have k1 := BN.cell 1; have k2 := BN.cell 2; have BY := hide BN; have Q3 := hide ((P1.out.trans0 o).alloc (.cells #[.int .i64 1, .int .i64 0, .int .i64 n] 26)); clear BN o; try simp only [hY])
          | (go_at_call 18; (with_reducible refine (MS.out _).mono ?_); rintro e w4 ⟨rfl, o⟩; have BX := B0.out.only (Q3.out.trans0 o) (by simp); have x0 := BX.cell 0; have x1 := BX.cell 1; have x2 := BX.cell 2; have g0 := BX.frozen 0; have g1 := BX.frozen 1; have g2 := BX.frozen 2; have BXH := hide BX; have BY4 := BY.out.only o (by simp); have BYH := hide BY4; have y0 := BY4.cell 0; have y1 := BY4.cell 1; have y2 := BY4.cell 2; have Q4 := hide (Q3.out.trans0 o); have O4 := hide (O0.out.trans0 (Q3.out.trans0 o)); clear o BX BY4)
          | (go_at_call 19; (with_reducible refine (LN.out _ O4.out).mono ?_); rintro e w5 ⟨rfl, o⟩; have BX := B0.out.only (Q4.out.trans0 o) (by simp); have x0 := BX.cell 0; have x1 := BX.cell 1; have x2 := BX.cell 2; have g0 := BX.frozen 0; have g1 := BX.frozen 1; have g2 := BX.frozen 2; have BXH := hide BX; have BY4 := BYH.out.only o (by simp); have y0 := BY4.cell 0; have y1 := BY4.cell 1; have y2 := BY4.cell 2; have O4 := hide (O4.out.trans0 o); clear o BX BY4))
        have BF := ((BXH.out.set_ 0 (.int .i64 (0))).set_ 1 (.int .i64 (0))).set_ 2 (.int .i64 (0))
        refine bodyPost_ret (v := .tuple #[.agg #[.int .i64 0, .int .i64 0, .int .i64 0], .int .i64 4]) (results_cell2 Tryz.results10 rfl rfl (load26 (a := .int .i64 (0)) (b := .int .i64 (0)) (c := .int .i64 (0)) (by simpa using BF))) rfl ⟨?_, ?_⟩
        · rw [HF.out]; rfl
        · exact ((O4.out.setCell (p := ⟨X, 0, none⟩) (.inr (by simp only; omega)) _).setCell (p := ⟨X, 1, none⟩) (.inr (by simp only; omega)) _).setCell (p := ⟨X, 2, none⟩) (.inr (by simp only; omega)) _
  · -- the word of number 2
    have HF1 := hide (show unlF s = if mayS ⟨⟨2, 0⟩, n⟩ = true ∧ lineT ⟨⟨2, 0⟩, n⟩ = s then some ⟨⟨2, 0⟩, n⟩ else none from HF.out)
    have CT := hide (show ∀ W, Calls Tryz.prog 35 #[.string (bs s)] W fun e w' => e = .returned (.tuple #[.string ⟨#[116, 105, 99, 107]⟩, .string (bs r0)]) ∧ Only [] W w' from CT)
    have MS := fun W => rmays_any (2) (0) (n) W
    have LN := fun W (o : Only [] w W) => rsline_any (2) (0) (n) (by omega) (by omega) (by omega) (by omega) W (HE.out.only o)
    clear HF
    cases hm : mayS ⟨⟨2, 0⟩, n⟩ with
    | false =>
      have HF := hide (show unlF s = none by rw [HF1.out, if_neg (fun h => by rw [hm] at h; exact absurd h.1 (by decide))])
      rw [hm] at MS
      have MS := hide MS
      clear HF1 hm LN
      go_enter Tryz.func10, Tryz.ntmps10
      go_wp2_with (first
        | (go_at_call 35; (with_reducible refine (CT.out _).mono ?_); rintro e w1 ⟨rfl, o⟩; have P1 := hide o; clear o)
        | (go_at_call 33; (with_reducible refine (AT.out _ (O0.out.trans0 P1.out)).mono ?_); rintro e w2 ⟨⟨er, rfl⟩, o⟩; have BN := Blk.new w2 26 #[.int .i64 2, .int .i64 0, .int .i64 n]; obtain ⟨Y, hY⟩ : ∃ Y, w2.heap.size = Y := ⟨_, rfl⟩; simp only [hY] at BN; have k0 := BN.cell 0; have k1 := BN.cell 1; have k2 := BN.cell 2; have BY := hide BN; have Q3 := hide ((P1.out.trans0 o).alloc (.cells #[.int .i64 2, .int .i64 0, .int .i64 n] 26)); clear BN o; try simp only [hY])
        | (go_at_call 18; (with_reducible refine (MS.out _).mono ?_); rintro e w4 ⟨rfl, o⟩; have BX := B0.out.only (Q3.out.trans0 o) (by simp); have x0 := BX.cell 0; have x1 := BX.cell 1; have x2 := BX.cell 2; have g0 := BX.frozen 0; have g1 := BX.frozen 1; have g2 := BX.frozen 2; have BXH := hide BX; have BY4 := BY.out.only o (by simp); have BYH := hide BY4; have y0 := BY4.cell 0; have y1 := BY4.cell 1; have y2 := BY4.cell 2; have Q4 := hide (Q3.out.trans0 o); have O4 := hide (O0.out.trans0 (Q3.out.trans0 o)); clear o BX BY4))
      have BF := ((BXH.out.set_ 0 (.int .i64 (0))).set_ 1 (.int .i64 (0))).set_ 2 (.int .i64 (0))
      refine bodyPost_ret (v := .tuple #[.agg #[.int .i64 0, .int .i64 0, .int .i64 0], .int .i64 4]) (results_cell2 Tryz.results10 rfl rfl (load26 (a := .int .i64 (0)) (b := .int .i64 (0)) (c := .int .i64 (0)) (by simpa using BF))) rfl ⟨?_, ?_⟩
      · rw [HF.out]; rfl
      · exact ((O4.out.setCell (p := ⟨X, 0, none⟩) (.inr (by simp only; omega)) _).setCell (p := ⟨X, 1, none⟩) (.inr (by simp only; omega)) _).setCell (p := ⟨X, 2, none⟩) (.inr (by simp only; omega)) _
    | true =>
      rw [hm] at MS
      have MS := hide MS
      by_cases hl : lineT ⟨⟨2, 0⟩, n⟩ = s
      · have HF := hide (show unlF s = some ⟨⟨2, 0⟩, n⟩ by rw [HF1.out, if_pos ⟨hm, hl⟩])
        rw [hl] at LN
        have LN := hide LN
        clear HF1 hm hl
        go_enter Tryz.func10, Tryz.ntmps10
        go_wp2_with (first
          | (go_at_call 35; (with_reducible refine (CT.out _).mono ?_); rintro e w1 ⟨rfl, o⟩; have P1 := hide o; clear o)
          | (go_at_call 33; (with_reducible refine (AT.out _ (O0.out.trans0 P1.out)).mono ?_); rintro e w2 ⟨⟨er, rfl⟩, o⟩; have BN := Blk.new w2 26 #[.int .i64 2, .int .i64 0, .int .i64 n]; obtain ⟨Y, hY⟩ : ∃ Y, w2.heap.size = Y := ⟨_, rfl⟩; simp only [hY] at BN; have k0 := BN.cell 0; have k1 := BN.cell 1; have k2 := BN.cell 2; have BY := hide BN; have Q3 := hide ((P1.out.trans0 o).alloc (.cells #[.int .i64 2, .int .i64 0, .int .i64 n] 26)); clear BN o; try simp only [hY])
          | (go_at_call 18; (with_reducible refine (MS.out _).mono ?_); rintro e w4 ⟨rfl, o⟩; have BX := B0.out.only (Q3.out.trans0 o) (by simp); have x0 := BX.cell 0; have x1 := BX.cell 1; have x2 := BX.cell 2; have g0 := BX.frozen 0; have g1 := BX.frozen 1; have g2 := BX.frozen 2; have BXH := hide BX; have BY4 := BY.out.only o (by simp); have BYH := hide BY4; have y0 := BY4.cell 0; have y1 := BY4.cell 1; have y2 := BY4.cell 2; have Q4 := hide (Q3.out.trans0 o); have O4 := hide (O0.out.trans0 (Q3.out.trans0 o)); clear o BX BY4)
          | (go_at_call 19; (with_reducible refine (LN.out _ O4.out).mono ?_); rintro e w5 ⟨rfl, o⟩; have BX := B0.out.only (Q4.out.trans0 o) (by simp); have x0 := BX.cell 0; have x1 := BX.cell 1; have x2 := BX.cell 2; have g0 := BX.frozen 0; have g1 := BX.frozen 1; have g2 := BX.frozen 2; have BXH := hide BX; have BY4 := BYH.out.only o (by simp); have y0 := BY4.cell 0; have y1 := BY4.cell 1; have y2 := BY4.cell 2; have O4 := hide (O4.out.trans0 o); clear o BX BY4))
        have BF := ((BXH.out.set_ 0 (.int .i64 (2))).set_ 1 (.int .i64 (0))).set_ 2 (.int .i64 (n))
        refine bodyPost_ret (v := .tuple #[.agg #[.int .i64 2, .int .i64 0, .int .i64 n], .int .i64 0]) (results_cell2 Tryz.results10 rfl rfl (load26 (a := .int .i64 (2)) (b := .int .i64 (0)) (c := .int .i64 (n)) (by simpa using BF))) rfl ⟨?_, ?_⟩
        · rw [HF.out]; rfl
        · exact ((O4.out.setCell (p := ⟨X, 0, none⟩) (.inr (by simp only; omega)) _).setCell (p := ⟨X, 1, none⟩) (.inr (by simp only; omega)) _).setCell (p := ⟨X, 2, none⟩) (.inr (by simp only; omega)) _
      · have HF := hide (show unlF s = none by rw [HF1.out, if_neg (fun h => hl h.2)])
        have bn3 := str_ne _ _ hl
        obtain ⟨tl, htl⟩ : ∃ x, bs (lineT ⟨⟨2, 0⟩, n⟩) = x := ⟨_, rfl⟩
        rw [htl] at LN bn3
        have LN := hide LN
        obtain ⟨bn1, bn2, bn4⟩ := bn3
        clear HF1 hm hl htl
        go_enter Tryz.func10, Tryz.ntmps10
        go_wp2_with (first
          | (go_at_call 35; (with_reducible refine (CT.out _).mono ?_); rintro e w1 ⟨rfl, o⟩; have P1 := hide o; clear o)
          | (go_at_call 33; (with_reducible refine (AT.out _ (O0.out.trans0 P1.out)).mono ?_); rintro e w2 ⟨⟨er, rfl⟩, o⟩; have BN := Blk.new w2 26 #[.int .i64 2, .int .i64 0, .int .i64 n]; obtain ⟨Y, hY⟩ : ∃ Y, w2.heap.size = Y := ⟨_, rfl⟩; simp only [hY] at BN; have k0 := BN.cell 0; have k1 := BN.cell 1; have k2 := BN.cell 2; have BY := hide BN; have Q3 := hide ((P1.out.trans0 o).alloc (.cells #[.int .i64 2, .int .i64 0, .int .i64 n] 26)); clear BN o; try simp only [hY])
          | (go_at_call 18; (with_reducible refine (MS.out _).mono ?_); rintro e w4 ⟨rfl, o⟩; have BX := B0.out.only (Q3.out.trans0 o) (by simp); have x0 := BX.cell 0; have x1 := BX.cell 1; have x2 := BX.cell 2; have g0 := BX.frozen 0; have g1 := BX.frozen 1; have g2 := BX.frozen 2; have BXH := hide BX; have BY4 := BY.out.only o (by simp); have BYH := hide BY4; have y0 := BY4.cell 0; have y1 := BY4.cell 1; have y2 := BY4.cell 2; have Q4 := hide (Q3.out.trans0 o); have O4 := hide (O0.out.trans0 (Q3.out.trans0 o)); clear o BX BY4)
          | (go_at_call 19; (with_reducible refine (LN.out _ O4.out).mono ?_); rintro e w5 ⟨rfl, o⟩; have BX := B0.out.only (Q4.out.trans0 o) (by simp); have x0 := BX.cell 0; have x1 := BX.cell 1; have x2 := BX.cell 2; have g0 := BX.frozen 0; have g1 := BX.frozen 1; have g2 := BX.frozen 2; have BXH := hide BX; have BY4 := BYH.out.only o (by simp); have y0 := BY4.cell 0; have y1 := BY4.cell 1; have y2 := BY4.cell 2; have O4 := hide (O4.out.trans0 o); clear o BX BY4))
        have BF := ((BXH.out.set_ 0 (.int .i64 (0))).set_ 1 (.int .i64 (0))).set_ 2 (.int .i64 (0))
        refine bodyPost_ret (v := .tuple #[.agg #[.int .i64 0, .int .i64 0, .int .i64 0], .int .i64 4]) (results_cell2 Tryz.results10 rfl rfl (load26 (a := .int .i64 (0)) (b := .int .i64 (0)) (c := .int .i64 (0)) (by simpa using BF))) rfl ⟨?_, ?_⟩
        · rw [HF.out]; rfl
        · exact ((O4.out.setCell (p := ⟨X, 0, none⟩) (.inr (by simp only; omega)) _).setCell (p := ⟨X, 1, none⟩) (.inr (by simp only; omega)) _).setCell (p := ⟨X, 2, none⟩) (.inr (by simp only; omega)) _
  · -- the word of number 3
    have HF1 := hide (show unlF s = if mayS ⟨⟨3, n⟩, 1⟩ = true ∧ lineT ⟨⟨3, n⟩, 1⟩ = s then some ⟨⟨3, n⟩, 1⟩ else none from HF.out)
    have CT := hide (show ∀ W, Calls Tryz.prog 35 #[.string (bs s)] W fun e w' => e = .returned (.tuple #[.string ⟨#[105, 110, 116, 101, 114, 114, 117, 112, 116]⟩, .string (bs r0)]) ∧ Only [] W w' from CT)
    have MS := fun W => rmays_any (3) (n) (1) W
    have LN := fun W (o : Only [] w W) => rsline_any (3) (n) (1) (by omega) (by omega) (by omega) (by omega) W (HE.out.only o)
    clear HF
    cases hm : mayS ⟨⟨3, n⟩, 1⟩ with
    | false =>
      have HF := hide (show unlF s = none by rw [HF1.out, if_neg (fun h => by rw [hm] at h; exact absurd h.1 (by decide))])
      rw [hm] at MS
      have MS := hide MS
      clear HF1 hm LN
      go_enter Tryz.func10, Tryz.ntmps10
      go_wp2_with (first
        | (go_at_call 35; (with_reducible refine (CT.out _).mono ?_); rintro e w1 ⟨rfl, o⟩; have P1 := hide o; clear o)
        | (go_at_call 33; (with_reducible refine (AT.out _ (O0.out.trans0 P1.out)).mono ?_); rintro e w2 ⟨⟨er, rfl⟩, o⟩; have BN := Blk.new w2 26 #[.int .i64 3, .int .i64 n, .int .i64 1]; obtain ⟨Y, hY⟩ : ∃ Y, w2.heap.size = Y := ⟨_, rfl⟩; simp only [hY] at BN; have k0 := BN.cell 0; have k1 := BN.cell 1; have k2 := BN.cell 2; have BY := hide BN; have Q3 := hide ((P1.out.trans0 o).alloc (.cells #[.int .i64 3, .int .i64 n, .int .i64 1] 26)); clear BN o; try simp only [hY])
        | (go_at_call 18; (with_reducible refine (MS.out _).mono ?_); rintro e w4 ⟨rfl, o⟩; have BX := B0.out.only (Q3.out.trans0 o) (by simp); have x0 := BX.cell 0; have x1 := BX.cell 1; have x2 := BX.cell 2; have g0 := BX.frozen 0; have g1 := BX.frozen 1; have g2 := BX.frozen 2; have BXH := hide BX; have BY4 := BY.out.only o (by simp); have BYH := hide BY4; have y0 := BY4.cell 0; have y1 := BY4.cell 1; have y2 := BY4.cell 2; have Q4 := hide (Q3.out.trans0 o); have O4 := hide (O0.out.trans0 (Q3.out.trans0 o)); clear o BX BY4))
      have BF := ((BXH.out.set_ 0 (.int .i64 (0))).set_ 1 (.int .i64 (0))).set_ 2 (.int .i64 (0))
      refine bodyPost_ret (v := .tuple #[.agg #[.int .i64 0, .int .i64 0, .int .i64 0], .int .i64 4]) (results_cell2 Tryz.results10 rfl rfl (load26 (a := .int .i64 (0)) (b := .int .i64 (0)) (c := .int .i64 (0)) (by simpa using BF))) rfl ⟨?_, ?_⟩
      · rw [HF.out]; rfl
      · exact ((O4.out.setCell (p := ⟨X, 0, none⟩) (.inr (by simp only; omega)) _).setCell (p := ⟨X, 1, none⟩) (.inr (by simp only; omega)) _).setCell (p := ⟨X, 2, none⟩) (.inr (by simp only; omega)) _
    | true =>
      rw [hm] at MS
      have MS := hide MS
      by_cases hl : lineT ⟨⟨3, n⟩, 1⟩ = s
      · have HF := hide (show unlF s = some ⟨⟨3, n⟩, 1⟩ by rw [HF1.out, if_pos ⟨hm, hl⟩])
        rw [hl] at LN
        have LN := hide LN
        clear HF1 hm hl
        go_enter Tryz.func10, Tryz.ntmps10
        go_wp2_with (first
          | (go_at_call 35; (with_reducible refine (CT.out _).mono ?_); rintro e w1 ⟨rfl, o⟩; have P1 := hide o; clear o)
          | (go_at_call 33; (with_reducible refine (AT.out _ (O0.out.trans0 P1.out)).mono ?_); rintro e w2 ⟨⟨er, rfl⟩, o⟩; have BN := Blk.new w2 26 #[.int .i64 3, .int .i64 n, .int .i64 1]; obtain ⟨Y, hY⟩ : ∃ Y, w2.heap.size = Y := ⟨_, rfl⟩; simp only [hY] at BN; have k0 := BN.cell 0; have k1 := BN.cell 1; have k2 := BN.cell 2; have BY := hide BN; have Q3 := hide ((P1.out.trans0 o).alloc (.cells #[.int .i64 3, .int .i64 n, .int .i64 1] 26)); clear BN o; try simp only [hY])
          | (go_at_call 18; (with_reducible refine (MS.out _).mono ?_); rintro e w4 ⟨rfl, o⟩; have BX := B0.out.only (Q3.out.trans0 o) (by simp); have x0 := BX.cell 0; have x1 := BX.cell 1; have x2 := BX.cell 2; have g0 := BX.frozen 0; have g1 := BX.frozen 1; have g2 := BX.frozen 2; have BXH := hide BX; have BY4 := BY.out.only o (by simp); have BYH := hide BY4; have y0 := BY4.cell 0; have y1 := BY4.cell 1; have y2 := BY4.cell 2; have Q4 := hide (Q3.out.trans0 o); have O4 := hide (O0.out.trans0 (Q3.out.trans0 o)); clear o BX BY4)
          | (go_at_call 19; (with_reducible refine (LN.out _ O4.out).mono ?_); rintro e w5 ⟨rfl, o⟩; have BX := B0.out.only (Q4.out.trans0 o) (by simp); have x0 := BX.cell 0; have x1 := BX.cell 1; have x2 := BX.cell 2; have g0 := BX.frozen 0; have g1 := BX.frozen 1; have g2 := BX.frozen 2; have BXH := hide BX; have BY4 := BYH.out.only o (by simp); have y0 := BY4.cell 0; have y1 := BY4.cell 1; have y2 := BY4.cell 2; have O4 := hide (O4.out.trans0 o); clear o BX BY4))
        have BF := ((BXH.out.set_ 0 (.int .i64 (3))).set_ 1 (.int .i64 (n))).set_ 2 (.int .i64 (1))
        refine bodyPost_ret (v := .tuple #[.agg #[.int .i64 3, .int .i64 n, .int .i64 1], .int .i64 0]) (results_cell2 Tryz.results10 rfl rfl (load26 (a := .int .i64 (3)) (b := .int .i64 (n)) (c := .int .i64 (1)) (by simpa using BF))) rfl ⟨?_, ?_⟩
        · rw [HF.out]; rfl
        · exact ((O4.out.setCell (p := ⟨X, 0, none⟩) (.inr (by simp only; omega)) _).setCell (p := ⟨X, 1, none⟩) (.inr (by simp only; omega)) _).setCell (p := ⟨X, 2, none⟩) (.inr (by simp only; omega)) _
      · have HF := hide (show unlF s = none by rw [HF1.out, if_neg (fun h => hl h.2)])
        have bn3 := str_ne _ _ hl
        obtain ⟨tl, htl⟩ : ∃ x, bs (lineT ⟨⟨3, n⟩, 1⟩) = x := ⟨_, rfl⟩
        rw [htl] at LN bn3
        have LN := hide LN
        obtain ⟨bn1, bn2, bn4⟩ := bn3
        clear HF1 hm hl htl
        go_enter Tryz.func10, Tryz.ntmps10
        go_wp2_with (first
          | (go_at_call 35; (with_reducible refine (CT.out _).mono ?_); rintro e w1 ⟨rfl, o⟩; have P1 := hide o; clear o)
          | (go_at_call 33; (with_reducible refine (AT.out _ (O0.out.trans0 P1.out)).mono ?_); rintro e w2 ⟨⟨er, rfl⟩, o⟩; have BN := Blk.new w2 26 #[.int .i64 3, .int .i64 n, .int .i64 1]; obtain ⟨Y, hY⟩ : ∃ Y, w2.heap.size = Y := ⟨_, rfl⟩; simp only [hY] at BN; have k0 := BN.cell 0; have k1 := BN.cell 1; have k2 := BN.cell 2; have BY := hide BN; have Q3 := hide ((P1.out.trans0 o).alloc (.cells #[.int .i64 3, .int .i64 n, .int .i64 1] 26)); clear BN o; try simp only [hY])
          | (go_at_call 18; (with_reducible refine (MS.out _).mono ?_); rintro e w4 ⟨rfl, o⟩; have BX := B0.out.only (Q3.out.trans0 o) (by simp); have x0 := BX.cell 0; have x1 := BX.cell 1; have x2 := BX.cell 2; have g0 := BX.frozen 0; have g1 := BX.frozen 1; have g2 := BX.frozen 2; have BXH := hide BX; have BY4 := BY.out.only o (by simp); have BYH := hide BY4; have y0 := BY4.cell 0; have y1 := BY4.cell 1; have y2 := BY4.cell 2; have Q4 := hide (Q3.out.trans0 o); have O4 := hide (O0.out.trans0 (Q3.out.trans0 o)); clear o BX BY4)
          | (go_at_call 19; (with_reducible refine (LN.out _ O4.out).mono ?_); rintro e w5 ⟨rfl, o⟩; have BX := B0.out.only (Q4.out.trans0 o) (by simp); have x0 := BX.cell 0; have x1 := BX.cell 1; have x2 := BX.cell 2; have g0 := BX.frozen 0; have g1 := BX.frozen 1; have g2 := BX.frozen 2; have BXH := hide BX; have BY4 := BYH.out.only o (by simp); have y0 := BY4.cell 0; have y1 := BY4.cell 1; have y2 := BY4.cell 2; have O4 := hide (O4.out.trans0 o); clear o BX BY4))
        have BF := ((BXH.out.set_ 0 (.int .i64 (0))).set_ 1 (.int .i64 (0))).set_ 2 (.int .i64 (0))
        refine bodyPost_ret (v := .tuple #[.agg #[.int .i64 0, .int .i64 0, .int .i64 0], .int .i64 4]) (results_cell2 Tryz.results10 rfl rfl (load26 (a := .int .i64 (0)) (b := .int .i64 (0)) (c := .int .i64 (0)) (by simpa using BF))) rfl ⟨?_, ?_⟩
        · rw [HF.out]; rfl
        · exact ((O4.out.setCell (p := ⟨X, 0, none⟩) (.inr (by simp only; omega)) _).setCell (p := ⟨X, 1, none⟩) (.inr (by simp only; omega)) _).setCell (p := ⟨X, 2, none⟩) (.inr (by simp only; omega)) _
  · -- the word of number 0
    have kz : kindW wd = 0 := by unfold kindW; rw [if_neg h1, if_neg h2, if_neg h3]
    have hm : mayS ⟨⟨0, 0⟩, n⟩ = false := by cases hh : mayS ⟨⟨0, 0⟩, n⟩ with | false => rfl | true => (have := mayS_num hh; simp only at this; omega)
    have HF1 := hide (show unlF s = none by have h := HF.out; rw [kz] at h; rw [h]; exact if_neg (fun h => by have h9 : mayS ⟨⟨0, 0⟩, n⟩ = true := h.1; rw [hm] at h9; cases h9))
    clear HF
    have HF := HF1
    have MS := fun W => rmays_any 0 0 0 W
    have hm0 : mayS ⟨⟨0, 0⟩, 0⟩ = false := by decide
    rw [hm0] at MS
    have MS := hide MS
    have CT := hide CT
    obtain ⟨a1, a2, a3⟩ := str_ne _ _ h1
    obtain ⟨b1, b2, b3⟩ := str_ne _ _ h2
    obtain ⟨c1, c2, c3⟩ := str_ne _ _ h3
    rw [show bs [114, 117, 110] = ⟨#[114, 117, 110]⟩ from rfl] at a1 a2 a3
    rw [show bs [116, 105, 99, 107] = ⟨#[116, 105, 99, 107]⟩ from rfl] at b1 b2 b3
    rw [show bs [105, 110, 116, 101, 114, 114, 117, 112, 116] = ⟨#[105, 110, 116, 101, 114, 114, 117, 112, 116]⟩ from rfl] at c1 c2 c3
    have htw : (bs wd).toList = wd := by rw [ByteArray.toList_eq, bs_list]
    have a4 : ((bs wd).toList == [114, 117, 110]) = false := by rw [htw]; simpa using h1
    have a5 : ¬ (bs wd).toList = [114, 117, 110] := by rw [htw]; exact h1
    have b4 : ((bs wd).toList == [116, 105, 99, 107]) = false := by rw [htw]; simpa using h2
    have b5 : ¬ (bs wd).toList = [116, 105, 99, 107] := by rw [htw]; exact h2
    have c4 : ((bs wd).toList == [105, 110, 116, 101, 114, 114, 117, 112, 116]) = false := by rw [htw]; simpa using h3
    have c5 : ¬ (bs wd).toList = [105, 110, 116, 101, 114, 114, 117, 112, 116] := by rw [htw]; exact h3
    clear htw
    obtain ⟨wq, hwq⟩ : ∃ x, bs wd = x := ⟨_, rfl⟩
    have CT2 := CT.out
    rw [hwq] at CT2 a1 a2 a3 b1 b2 b3 c1 c2 c3 a4 a5 b4 b5 c4 c5
    have CT := hide CT2
    clear CT2 hwq h1 h2 h3 kz hm hm0
    go_enter Tryz.func10, Tryz.ntmps10
    go_wp2_with (first
      | (go_at_call 35; (with_reducible refine (CT.out _).mono ?_); rintro e w1 ⟨rfl, o⟩; have P1 := hide o; clear o)
      | (go_at_call 33; (with_reducible refine (AT.out _ (O0.out.trans0 P1.out)).mono ?_); rintro e w2 ⟨⟨er, rfl⟩, o⟩; have BN := Blk.new w2 26 #[.int .i64 0, .int .i64 0, .int .i64 0]; obtain ⟨Y, hY⟩ : ∃ Y, w2.heap.size = Y := ⟨_, rfl⟩; simp only [hY] at BN; have k0 := BN.cell 0; have k1 := BN.cell 1; have k2 := BN.cell 2; have BY := hide BN; have Q3 := hide ((P1.out.trans0 o).alloc (.cells #[.int .i64 0, .int .i64 0, .int .i64 0] 26)); clear BN o; try simp only [hY])
      | (go_at_call 18; (with_reducible refine (MS.out _).mono ?_); rintro e w4 ⟨rfl, o⟩; have BX := B0.out.only (Q3.out.trans0 o) (by simp); have x0 := BX.cell 0; have x1 := BX.cell 1; have x2 := BX.cell 2; have g0 := BX.frozen 0; have g1 := BX.frozen 1; have g2 := BX.frozen 2; have BXH := hide BX; have BY4 := BY.out.only o (by simp); have BYH := hide BY4; have y0 := BY4.cell 0; have y1 := BY4.cell 1; have y2 := BY4.cell 2; have Q4 := hide (Q3.out.trans0 o); have O4 := hide (O0.out.trans0 (Q3.out.trans0 o)); clear o BX BY4))
    have BF := ((BXH.out.set_ 0 (.int .i64 (0))).set_ 1 (.int .i64 (0))).set_ 2 (.int .i64 (0))
    refine bodyPost_ret (v := .tuple #[.agg #[.int .i64 0, .int .i64 0, .int .i64 0], .int .i64 4]) (results_cell2 Tryz.results10 rfl rfl (load26 (a := .int .i64 (0)) (b := .int .i64 (0)) (c := .int .i64 (0)) (by simpa using BF))) rfl ⟨?_, ?_⟩
    · rw [HF.out]; rfl
    · exact ((O4.out.setCell (p := ⟨X, 0, none⟩) (.inr (by simp only; omega)) _).setCell (p := ⟨X, 1, none⟩) (.inr (by simp only; omega)) _).setCell (p := ⟨X, 2, none⟩) (.inr (by simp only; omega)) _
end Go.Proofs.YteblhklclcjonaaGreatDoor
