/- Script: the walk of Unline. Condition: Env; a text of at most 2000000 bytes. -/
import Derived.Test.YteblhklclcjonaaGreatDoorSe3
import Derived.Test.YteblhklclcjonaaGreatDoorCd9
namespace Go.Proofs.YteblhklclcjonaaGreatDoor
open Go.RowKit
set_option linter.unusedVariables false
set_option linter.all false
set_option maxRecDepth 20000

def z3 : Array Value := #[.int .i64 0, .int .i64 0, .int .i64 0]
def strV (x : Str) : Array Value := #[.int .i64 x.ev.kind, .int .i64 x.ev.num, .int .i64 x.n]
/-- What Unline answers. -/
def unlV (r : Option Str) : Value := match r with
  | some x => .tuple #[.agg (strV x), .int .i64 0]
  | none => .tuple #[.agg z3, .int .i64 4]
theorem info26 : (Tryz.prog.info? 26).map (·.size) = some 3 := by kernel_rfl
theorem load26 {w : World} {g : Nat} {a b c : Value} (h : Blk w g 26 #[a, b, c]) : (loadVar 26 ⟨g, 0, none⟩).run Tryz.prog w = .ok (.agg #[a, b, c]) w := by
  have x0 := h.cell 0
  have x1 := h.cell 1
  have x2 := h.cell 2
  simp [go_sem, x0, x1, x2]
theorem kindW_cases (l : List UInt8) : kindW l = 0 ∨ kindW l = 1 ∨ kindW l = 2 ∨ kindW l = 3 := by
  unfold kindW
  split
  · exact .inr (.inl rfl)
  · split
    · exact .inr (.inr (.inl rfl))
    · split
      · exact .inr (.inr (.inr rfl))
      · exact .inl rfl
theorem idx3_any (l : List UInt8) (X : Nat) (w : World) (h : Blk w X 9 #[.string ⟨#[114, 117, 110]⟩, .string ⟨#[116, 105, 99, 107]⟩, .string ⟨#[105, 110, 116, 101, 114, 114, 117, 112, 116]⟩]) : Calls Tryz.prog 34 #[.slice (some ⟨X, 0, none⟩) 3 3, .string (bs l)] w fun e w' => e = .returned (.int .i64 (kindW l - 1)) ∧ w' = w := by
  have := Tryz.slices_Index Value.string (fun x y => x.toList == y.toList) (.string _ _) X 0 3 3 [bs [114, 117, 110], bs [116, 105, 99, 107], bs [105, 110, 116, 101, 114, 114, 117, 112, 116]] (bs l) w (by simp) (by omega) (fun j hj => by
    simp only [List.length_cons, List.length_nil] at hj
    rw [Nat.zero_add]
    have : j = 0 ∨ j = 1 ∨ j = 2 := by omega
    rcases this with rfl | rfl | rfl <;> exact (h.cell _).trans rfl)
  have e : Lib.idxBy (fun x y : ByteArray => x.toList == y.toList) (List.take 3 [bs [114, 117, 110], bs [116, 105, 99, 107], bs [105, 110, 116, 101, 114, 114, 117, 112, 116]]) (bs l) = kindW l - 1 := by
    unfold Lib.idxBy
    simp only [List.take, Lib.idxByFrom, bs_eq]
    unfold kindW
    have both : ∀ a : List UInt8, l ≠ a → (a == l) = false ∧ (l == a) = false := fun a h => ⟨by simpa using fun e => h e.symm, by simpa using h⟩
    by_cases h1 : l = [114, 117, 110]
    · subst h1; rfl
    · rw [if_neg h1]
      by_cases h2 : l = [116, 105, 99, 107]
      · subst h2; rfl
      · rw [if_neg h2]
        by_cases h3 : l = [105, 110, 116, 101, 114, 114, 117, 112, 116]
        · subst h3; rfl
        · rw [if_neg h3]
          simp only [(both _ h1).1, (both _ h2).1, (both _ h3).1, (both _ h1).2, (both _ h2).2, (both _ h3).2]
          rfl
  rw [e] at this
  exact this
set_option maxHeartbeats 4000000 in
theorem unline_any (s : List UInt8) (hs : s.length ≤ 2000000) (w : World) (he : Env w) (hw4 : 4 ≤ w.heap.size) : Calls Tryz.prog 9 #[.string (bs s)] w fun e w' => e = .returned (unlV (unlF s)) ∧ Only [] w w' := by
  obtain ⟨X, hX⟩ : ∃ X, w.heap.size = X := ⟨_, rfl⟩
  have B0 := hide (Blk.new w 26 #[.int .i64 0, .int .i64 0, .int .i64 0])
  have O0 := hide ((Only.refl [] w).alloc (.cells #[.int .i64 0, .int .i64 0, .int .i64 0] 26))
  rw [hX] at B0
  have CT := fun W (o : Only [] w W) => cut_any (bs s) 32 (by rw [bs_size]; omega) W (he.only o)
  rw [bs_list] at CT
  have hcl := cut_le 32 s
  have hF : unlF s = if mayS (strW (kindW (cutAt 32 s).1) (atoiV (cutAt 32 s).2.1)) = true ∧ lineT (strW (kindW (cutAt 32 s).1) (atoiV (cutAt 32 s).2.1)) = s then some (strW (kindW (cutAt 32 s).1) (atoiV (cutAt 32 s).2.1)) else none := rfl
  obtain ⟨wd, hwd⟩ : ∃ x, (cutAt 32 s).1 = x := ⟨_, rfl⟩
  obtain ⟨r0, hr0⟩ : ∃ x, (cutAt 32 s).2.1 = x := ⟨_, rfl⟩
  obtain ⟨mo, hmo⟩ : ∃ x, (cutAt 32 s).2.2 = x := ⟨_, rfl⟩
  rw [hwd, hr0, hmo] at CT
  rw [hwd, hr0] at hcl hF
  have AT := fun W (o : Only [] w W) => atoi_any (bs r0) (by rw [bs_size]; omega) W (he.only o)
  rw [bs_list] at AT
  have hab := atoiV_bounds r0
  obtain ⟨n, hn⟩ : ∃ n, atoiV r0 = n := ⟨_, rfl⟩
  rw [hn] at AT hF hab
  have CT := hide (show ∀ W, Only [] w W → Calls Tryz.prog 32 #[.string (bs s), .string ⟨#[32]⟩] W fun e w' => e = .returned (.tuple #[.string (bs wd), .string (bs r0), .bool mo]) ∧ Only [] W w' from CT)
  have AT := hide AT
  have kc := kindW_cases wd
  have IX := fun (K : Nat) W hb => idx3_any wd K W hb
  obtain ⟨k, hk⟩ : ∃ k, kindW wd = k := ⟨_, rfl⟩
  rw [hk] at kc IX hF
  have IX := hide IX
  have HF := hide hF
  have HE := hide he
  have LN := hide (fun k m n W (o : Only [] w W) => sline_any k m n W (HE.out.only o))
  clear he hF hwd hr0 hmo hn hk
  rcases kc with rfl | rfl | rfl | rfl
  · -- the word of number 0
    have HF1 := hide (show unlF s = if mayS ⟨⟨0, 0⟩, n⟩ = true ∧ lineT ⟨⟨0, 0⟩, n⟩ = s then some ⟨⟨0, 0⟩, n⟩ else none from HF.out)
    clear HF
    cases hm : mayS ⟨⟨0, 0⟩, n⟩ with
    | false =>
      have LN := hide (fun W => sline_bad 0 (0) (n) W hm)
      have HF := hide (show unlF s = none by rw [HF1.out, if_neg (fun h => by rw [hm] at h; exact absurd h.1 (by decide))])
      clear HF1 hm
      go_enter Tryz.func9, Tryz.ntmps9
      go_wp2_with (first
        | (go_at_call 32; (with_reducible refine (CT.out _ O0.out).mono ?_); rintro e w1 ⟨rfl, o⟩; have P1 := hide o; clear o)
        | (go_at_call 33; (with_reducible refine (AT.out _ (O0.out.trans0 P1.out)).mono ?_); rintro e w2 ⟨⟨er, rfl⟩, o⟩; have P2 := hide (P1.out.trans0 o); have b2 := hide (Blk.new w2 9 #[.string ⟨#[114, 117, 110]⟩, .string ⟨#[116, 105, 99, 107]⟩, .string ⟨#[105, 110, 116, 101, 114, 114, 117, 112, 116]⟩]); clear o)
        | (go_at_call 34; (with_reducible refine (IX.out _ _ b2.out).mono ?_); rintro e w3 ⟨rfl, hw⟩; obtain rfl := hw.symm; clear hw; have BN := Blk.new (w2.alloc (.cells #[.string ⟨#[114, 117, 110]⟩, .string ⟨#[116, 105, 99, 107]⟩, .string ⟨#[105, 110, 116, 101, 114, 114, 117, 112, 116]⟩] 9)) 26 #[.int .i64 0, .int .i64 0, .int .i64 n]; rw [World.size_alloc] at BN; obtain ⟨Y, hY⟩ : ∃ Y, w2.heap.size + 1 = Y := ⟨_, rfl⟩; simp only [hY] at BN; have k0 := BN.cell 0; have k1 := BN.cell 1; have k2 := BN.cell 2; have f1 := BN.frozen 1; have f2 := BN.frozen 2; have BN1 := BN; have BY := hide BN1; have l0 := BN1.cell 0; have l1 := BN1.cell 1; have l2 := BN1.cell 2; have Q3 := hide ((P2.out.alloc (.cells #[.string ⟨#[114, 117, 110]⟩, .string ⟨#[116, 105, 99, 107]⟩, .string ⟨#[105, 110, 116, 101, 114, 114, 117, 112, 116]⟩] 9)).alloc (.cells #[.int .i64 0, .int .i64 0, .int .i64 n] 26)); clear BN1; try simp only [hY])
        | (go_at_call 8; (with_reducible refine (LN.out _).mono ?_); rintro e w4 ⟨rfl, o⟩; have BX := B0.out.only (Q3.out.trans0 o) (by simp); have x0 := BX.cell 0; have x1 := BX.cell 1; have x2 := BX.cell 2; have g0 := BX.frozen 0; have g1 := BX.frozen 1; have g2 := BX.frozen 2; have BXH := hide BX; have BY4 := BY.out.only o (by simp); have y0 := BY4.cell 0; have y1 := BY4.cell 1; have y2 := BY4.cell 2; have O4 := hide (O0.out.trans0 (Q3.out.trans0 o)); clear o BX BY4))
      have BF := ((BXH.out.set_ 0 (.int .i64 (0))).set_ 1 (.int .i64 (0))).set_ 2 (.int .i64 (0))
      refine bodyPost_ret (v := .tuple #[.agg #[.int .i64 0, .int .i64 0, .int .i64 0], .int .i64 4]) (results_cell2 Tryz.results9 rfl rfl (load26 (a := .int .i64 (0)) (b := .int .i64 (0)) (c := .int .i64 (0)) (by simpa using BF))) rfl ⟨?_, ?_⟩
      · rw [HF.out]; rfl
      · exact ((O4.out.setCell (p := ⟨X, 0, none⟩) (.inr (by simp only; omega)) _).setCell (p := ⟨X, 1, none⟩) (.inr (by simp only; omega)) _).setCell (p := ⟨X, 2, none⟩) (.inr (by simp only; omega)) _
    | true =>
      have LN := (fun W (o : Only [] w W) => sline_good 0 (0) (n) W (HE.out.only o) hm)
      by_cases hl : lineT ⟨⟨0, 0⟩, n⟩ = s
      · have HF := hide (show unlF s = some ⟨⟨0, 0⟩, n⟩ by rw [HF1.out, if_pos ⟨hm, hl⟩])
        rw [hl] at LN
        have LN := hide LN
        clear HF1 hm hl
        go_enter Tryz.func9, Tryz.ntmps9
        go_wp2_with (first
          | (go_at_call 32; (with_reducible refine (CT.out _ O0.out).mono ?_); rintro e w1 ⟨rfl, o⟩; have P1 := hide o; clear o)
          | (go_at_call 33; (with_reducible refine (AT.out _ (O0.out.trans0 P1.out)).mono ?_); rintro e w2 ⟨⟨er, rfl⟩, o⟩; have P2 := hide (P1.out.trans0 o); have b2 := hide (Blk.new w2 9 #[.string ⟨#[114, 117, 110]⟩, .string ⟨#[116, 105, 99, 107]⟩, .string ⟨#[105, 110, 116, 101, 114, 114, 117, 112, 116]⟩]); clear o)
          | (go_at_call 34; (with_reducible refine (IX.out _ _ b2.out).mono ?_); rintro e w3 ⟨rfl, hw⟩; obtain rfl := hw.symm; clear hw; have BN := Blk.new (w2.alloc (.cells #[.string ⟨#[114, 117, 110]⟩, .string ⟨#[116, 105, 99, 107]⟩, .string ⟨#[105, 110, 116, 101, 114, 114, 117, 112, 116]⟩] 9)) 26 #[.int .i64 0, .int .i64 0, .int .i64 n]; rw [World.size_alloc] at BN; obtain ⟨Y, hY⟩ : ∃ Y, w2.heap.size + 1 = Y := ⟨_, rfl⟩; simp only [hY] at BN; have k0 := BN.cell 0; have k1 := BN.cell 1; have k2 := BN.cell 2; have f1 := BN.frozen 1; have f2 := BN.frozen 2; have BN1 := BN; have BY := hide BN1; have l0 := BN1.cell 0; have l1 := BN1.cell 1; have l2 := BN1.cell 2; have Q3 := hide ((P2.out.alloc (.cells #[.string ⟨#[114, 117, 110]⟩, .string ⟨#[116, 105, 99, 107]⟩, .string ⟨#[105, 110, 116, 101, 114, 114, 117, 112, 116]⟩] 9)).alloc (.cells #[.int .i64 0, .int .i64 0, .int .i64 n] 26)); clear BN1; try simp only [hY])
          | (go_at_call 8; (with_reducible refine (LN.out _ (O0.out.trans0 Q3.out)).mono ?_); rintro e w4 ⟨rfl, o⟩; have BX := B0.out.only (Q3.out.trans0 o) (by simp); have x0 := BX.cell 0; have x1 := BX.cell 1; have x2 := BX.cell 2; have g0 := BX.frozen 0; have g1 := BX.frozen 1; have g2 := BX.frozen 2; have BXH := hide BX; have BY4 := BY.out.only o (by simp); have y0 := BY4.cell 0; have y1 := BY4.cell 1; have y2 := BY4.cell 2; have O4 := hide (O0.out.trans0 (Q3.out.trans0 o)); clear o BX BY4))
        have BF := ((BXH.out.set_ 0 (.int .i64 (0))).set_ 1 (.int .i64 (0))).set_ 2 (.int .i64 (n))
        refine bodyPost_ret (v := .tuple #[.agg #[.int .i64 0, .int .i64 0, .int .i64 n], .int .i64 0]) (results_cell2 Tryz.results9 rfl rfl (load26 (a := .int .i64 (0)) (b := .int .i64 (0)) (c := .int .i64 (n)) (by simpa using BF))) rfl ⟨?_, ?_⟩
        · rw [HF.out]; rfl
        · exact ((O4.out.setCell (p := ⟨X, 0, none⟩) (.inr (by simp only; omega)) _).setCell (p := ⟨X, 1, none⟩) (.inr (by simp only; omega)) _).setCell (p := ⟨X, 2, none⟩) (.inr (by simp only; omega)) _
      · have HF := hide (show unlF s = none by rw [HF1.out, if_neg (fun h => hl h.2)])
        have bne : ((bs (lineT ⟨⟨0, 0⟩, n⟩)).toList == (bs s).toList) = false := by rw [bs_eq]; simpa using hl
        obtain ⟨tl, htl⟩ : ∃ x, bs (lineT ⟨⟨0, 0⟩, n⟩) = x := ⟨_, rfl⟩
        rw [htl] at LN bne
        have bne2 : (tl.toList != (bs s).toList) = true := by simp [bne, bne_iff_ne]; simpa using bne
        have LN := hide LN
        clear HF1 hm hl htl
        go_enter Tryz.func9, Tryz.ntmps9
        go_wp2_with (first
          | (go_at_call 32; (with_reducible refine (CT.out _ O0.out).mono ?_); rintro e w1 ⟨rfl, o⟩; have P1 := hide o; clear o)
          | (go_at_call 33; (with_reducible refine (AT.out _ (O0.out.trans0 P1.out)).mono ?_); rintro e w2 ⟨⟨er, rfl⟩, o⟩; have P2 := hide (P1.out.trans0 o); have b2 := hide (Blk.new w2 9 #[.string ⟨#[114, 117, 110]⟩, .string ⟨#[116, 105, 99, 107]⟩, .string ⟨#[105, 110, 116, 101, 114, 114, 117, 112, 116]⟩]); clear o)
          | (go_at_call 34; (with_reducible refine (IX.out _ _ b2.out).mono ?_); rintro e w3 ⟨rfl, hw⟩; obtain rfl := hw.symm; clear hw; have BN := Blk.new (w2.alloc (.cells #[.string ⟨#[114, 117, 110]⟩, .string ⟨#[116, 105, 99, 107]⟩, .string ⟨#[105, 110, 116, 101, 114, 114, 117, 112, 116]⟩] 9)) 26 #[.int .i64 0, .int .i64 0, .int .i64 n]; rw [World.size_alloc] at BN; obtain ⟨Y, hY⟩ : ∃ Y, w2.heap.size + 1 = Y := ⟨_, rfl⟩; simp only [hY] at BN; have k0 := BN.cell 0; have k1 := BN.cell 1; have k2 := BN.cell 2; have f1 := BN.frozen 1; have f2 := BN.frozen 2; have BN1 := BN; have BY := hide BN1; have l0 := BN1.cell 0; have l1 := BN1.cell 1; have l2 := BN1.cell 2; have Q3 := hide ((P2.out.alloc (.cells #[.string ⟨#[114, 117, 110]⟩, .string ⟨#[116, 105, 99, 107]⟩, .string ⟨#[105, 110, 116, 101, 114, 114, 117, 112, 116]⟩] 9)).alloc (.cells #[.int .i64 0, .int .i64 0, .int .i64 n] 26)); clear BN1; try simp only [hY])
          | (go_at_call 8; (with_reducible refine (LN.out _ (O0.out.trans0 Q3.out)).mono ?_); rintro e w4 ⟨rfl, o⟩; have BX := B0.out.only (Q3.out.trans0 o) (by simp); have x0 := BX.cell 0; have x1 := BX.cell 1; have x2 := BX.cell 2; have g0 := BX.frozen 0; have g1 := BX.frozen 1; have g2 := BX.frozen 2; have BXH := hide BX; have BY4 := BY.out.only o (by simp); have y0 := BY4.cell 0; have y1 := BY4.cell 1; have y2 := BY4.cell 2; have O4 := hide (O0.out.trans0 (Q3.out.trans0 o)); clear o BX BY4))
        have BF := ((BXH.out.set_ 0 (.int .i64 (0))).set_ 1 (.int .i64 (0))).set_ 2 (.int .i64 (0))
        refine bodyPost_ret (v := .tuple #[.agg #[.int .i64 0, .int .i64 0, .int .i64 0], .int .i64 4]) (results_cell2 Tryz.results9 rfl rfl (load26 (a := .int .i64 (0)) (b := .int .i64 (0)) (c := .int .i64 (0)) (by simpa using BF))) rfl ⟨?_, ?_⟩
        · rw [HF.out]; rfl
        · exact ((O4.out.setCell (p := ⟨X, 0, none⟩) (.inr (by simp only; omega)) _).setCell (p := ⟨X, 1, none⟩) (.inr (by simp only; omega)) _).setCell (p := ⟨X, 2, none⟩) (.inr (by simp only; omega)) _
  · -- the word of number 1
    have HF1 := hide (show unlF s = if mayS ⟨⟨1, 0⟩, n⟩ = true ∧ lineT ⟨⟨1, 0⟩, n⟩ = s then some ⟨⟨1, 0⟩, n⟩ else none from HF.out)
    clear HF
    cases hm : mayS ⟨⟨1, 0⟩, n⟩ with
    | false =>
      have LN := hide (fun W => sline_bad 1 (0) (n) W hm)
      have HF := hide (show unlF s = none by rw [HF1.out, if_neg (fun h => by rw [hm] at h; exact absurd h.1 (by decide))])
      clear HF1 hm
      go_enter Tryz.func9, Tryz.ntmps9
      go_wp2_with (first
        | (go_at_call 32; (with_reducible refine (CT.out _ O0.out).mono ?_); rintro e w1 ⟨rfl, o⟩; have P1 := hide o; clear o)
        | (go_at_call 33; (with_reducible refine (AT.out _ (O0.out.trans0 P1.out)).mono ?_); rintro e w2 ⟨⟨er, rfl⟩, o⟩; have P2 := hide (P1.out.trans0 o); have b2 := hide (Blk.new w2 9 #[.string ⟨#[114, 117, 110]⟩, .string ⟨#[116, 105, 99, 107]⟩, .string ⟨#[105, 110, 116, 101, 114, 114, 117, 112, 116]⟩]); clear o)
        | (go_at_call 34; (with_reducible refine (IX.out _ _ b2.out).mono ?_); rintro e w3 ⟨rfl, hw⟩; obtain rfl := hw.symm; clear hw; have BN := Blk.new (w2.alloc (.cells #[.string ⟨#[114, 117, 110]⟩, .string ⟨#[116, 105, 99, 107]⟩, .string ⟨#[105, 110, 116, 101, 114, 114, 117, 112, 116]⟩] 9)) 26 #[.int .i64 1, .int .i64 0, .int .i64 n]; rw [World.size_alloc] at BN; obtain ⟨Y, hY⟩ : ∃ Y, w2.heap.size + 1 = Y := ⟨_, rfl⟩; simp only [hY] at BN; have k0 := BN.cell 0; have k1 := BN.cell 1; have k2 := BN.cell 2; have f1 := BN.frozen 1; have f2 := BN.frozen 2; have BN1 := BN; have BY := hide BN1; have l0 := BN1.cell 0; have l1 := BN1.cell 1; have l2 := BN1.cell 2; have Q3 := hide ((P2.out.alloc (.cells #[.string ⟨#[114, 117, 110]⟩, .string ⟨#[116, 105, 99, 107]⟩, .string ⟨#[105, 110, 116, 101, 114, 114, 117, 112, 116]⟩] 9)).alloc (.cells #[.int .i64 1, .int .i64 0, .int .i64 n] 26)); clear BN1; try simp only [hY])
        | (go_at_call 8; (with_reducible refine (LN.out _).mono ?_); rintro e w4 ⟨rfl, o⟩; have BX := B0.out.only (Q3.out.trans0 o) (by simp); have x0 := BX.cell 0; have x1 := BX.cell 1; have x2 := BX.cell 2; have g0 := BX.frozen 0; have g1 := BX.frozen 1; have g2 := BX.frozen 2; have BXH := hide BX; have BY4 := BY.out.only o (by simp); have y0 := BY4.cell 0; have y1 := BY4.cell 1; have y2 := BY4.cell 2; have O4 := hide (O0.out.trans0 (Q3.out.trans0 o)); clear o BX BY4))
      have BF := ((BXH.out.set_ 0 (.int .i64 (0))).set_ 1 (.int .i64 (0))).set_ 2 (.int .i64 (0))
      refine bodyPost_ret (v := .tuple #[.agg #[.int .i64 0, .int .i64 0, .int .i64 0], .int .i64 4]) (results_cell2 Tryz.results9 rfl rfl (load26 (a := .int .i64 (0)) (b := .int .i64 (0)) (c := .int .i64 (0)) (by simpa using BF))) rfl ⟨?_, ?_⟩
      · rw [HF.out]; rfl
      · exact ((O4.out.setCell (p := ⟨X, 0, none⟩) (.inr (by simp only; omega)) _).setCell (p := ⟨X, 1, none⟩) (.inr (by simp only; omega)) _).setCell (p := ⟨X, 2, none⟩) (.inr (by simp only; omega)) _
    | true =>
      have LN := (fun W (o : Only [] w W) => sline_good 1 (0) (n) W (HE.out.only o) hm)
      by_cases hl : lineT ⟨⟨1, 0⟩, n⟩ = s
      · have HF := hide (show unlF s = some ⟨⟨1, 0⟩, n⟩ by rw [HF1.out, if_pos ⟨hm, hl⟩])
        rw [hl] at LN
        have LN := hide LN
        clear HF1 hm hl
        go_enter Tryz.func9, Tryz.ntmps9
        go_wp2_with (first
          | (go_at_call 32; (with_reducible refine (CT.out _ O0.out).mono ?_); rintro e w1 ⟨rfl, o⟩; have P1 := hide o; clear o)
          | (go_at_call 33; (with_reducible refine (AT.out _ (O0.out.trans0 P1.out)).mono ?_); rintro e w2 ⟨⟨er, rfl⟩, o⟩; have P2 := hide (P1.out.trans0 o); have b2 := hide (Blk.new w2 9 #[.string ⟨#[114, 117, 110]⟩, .string ⟨#[116, 105, 99, 107]⟩, .string ⟨#[105, 110, 116, 101, 114, 114, 117, 112, 116]⟩]); clear o)
          | (go_at_call 34; (with_reducible refine (IX.out _ _ b2.out).mono ?_); rintro e w3 ⟨rfl, hw⟩; obtain rfl := hw.symm; clear hw; have BN := Blk.new (w2.alloc (.cells #[.string ⟨#[114, 117, 110]⟩, .string ⟨#[116, 105, 99, 107]⟩, .string ⟨#[105, 110, 116, 101, 114, 114, 117, 112, 116]⟩] 9)) 26 #[.int .i64 1, .int .i64 0, .int .i64 n]; rw [World.size_alloc] at BN; obtain ⟨Y, hY⟩ : ∃ Y, w2.heap.size + 1 = Y := ⟨_, rfl⟩; simp only [hY] at BN; have k0 := BN.cell 0; have k1 := BN.cell 1; have k2 := BN.cell 2; have f1 := BN.frozen 1; have f2 := BN.frozen 2; have BN1 := BN; have BY := hide BN1; have l0 := BN1.cell 0; have l1 := BN1.cell 1; have l2 := BN1.cell 2; have Q3 := hide ((P2.out.alloc (.cells #[.string ⟨#[114, 117, 110]⟩, .string ⟨#[116, 105, 99, 107]⟩, .string ⟨#[105, 110, 116, 101, 114, 114, 117, 112, 116]⟩] 9)).alloc (.cells #[.int .i64 1, .int .i64 0, .int .i64 n] 26)); clear BN1; try simp only [hY])
          | (go_at_call 8; (with_reducible refine (LN.out _ (O0.out.trans0 Q3.out)).mono ?_); rintro e w4 ⟨rfl, o⟩; have BX := B0.out.only (Q3.out.trans0 o) (by simp); have x0 := BX.cell 0; have x1 := BX.cell 1; have x2 := BX.cell 2; have g0 := BX.frozen 0; have g1 := BX.frozen 1; have g2 := BX.frozen 2; have BXH := hide BX; have BY4 := BY.out.only o (by simp); have y0 := BY4.cell 0; have y1 := BY4.cell 1; have y2 := BY4.cell 2; have O4 := hide (O0.out.trans0 (Q3.out.trans0 o)); clear o BX BY4))
        have BF := ((BXH.out.set_ 0 (.int .i64 (1))).set_ 1 (.int .i64 (0))).set_ 2 (.int .i64 (n))
        refine bodyPost_ret (v := .tuple #[.agg #[.int .i64 1, .int .i64 0, .int .i64 n], .int .i64 0]) (results_cell2 Tryz.results9 rfl rfl (load26 (a := .int .i64 (1)) (b := .int .i64 (0)) (c := .int .i64 (n)) (by simpa using BF))) rfl ⟨?_, ?_⟩
        · rw [HF.out]; rfl
        · exact ((O4.out.setCell (p := ⟨X, 0, none⟩) (.inr (by simp only; omega)) _).setCell (p := ⟨X, 1, none⟩) (.inr (by simp only; omega)) _).setCell (p := ⟨X, 2, none⟩) (.inr (by simp only; omega)) _
      · have HF := hide (show unlF s = none by rw [HF1.out, if_neg (fun h => hl h.2)])
        have bne : ((bs (lineT ⟨⟨1, 0⟩, n⟩)).toList == (bs s).toList) = false := by rw [bs_eq]; simpa using hl
        obtain ⟨tl, htl⟩ : ∃ x, bs (lineT ⟨⟨1, 0⟩, n⟩) = x := ⟨_, rfl⟩
        rw [htl] at LN bne
        have bne2 : (tl.toList != (bs s).toList) = true := by simp [bne, bne_iff_ne]; simpa using bne
        have LN := hide LN
        clear HF1 hm hl htl
        go_enter Tryz.func9, Tryz.ntmps9
        go_wp2_with (first
          | (go_at_call 32; (with_reducible refine (CT.out _ O0.out).mono ?_); rintro e w1 ⟨rfl, o⟩; have P1 := hide o; clear o)
          | (go_at_call 33; (with_reducible refine (AT.out _ (O0.out.trans0 P1.out)).mono ?_); rintro e w2 ⟨⟨er, rfl⟩, o⟩; have P2 := hide (P1.out.trans0 o); have b2 := hide (Blk.new w2 9 #[.string ⟨#[114, 117, 110]⟩, .string ⟨#[116, 105, 99, 107]⟩, .string ⟨#[105, 110, 116, 101, 114, 114, 117, 112, 116]⟩]); clear o)
          | (go_at_call 34; (with_reducible refine (IX.out _ _ b2.out).mono ?_); rintro e w3 ⟨rfl, hw⟩; obtain rfl := hw.symm; clear hw; have BN := Blk.new (w2.alloc (.cells #[.string ⟨#[114, 117, 110]⟩, .string ⟨#[116, 105, 99, 107]⟩, .string ⟨#[105, 110, 116, 101, 114, 114, 117, 112, 116]⟩] 9)) 26 #[.int .i64 1, .int .i64 0, .int .i64 n]; rw [World.size_alloc] at BN; obtain ⟨Y, hY⟩ : ∃ Y, w2.heap.size + 1 = Y := ⟨_, rfl⟩; simp only [hY] at BN; have k0 := BN.cell 0; have k1 := BN.cell 1; have k2 := BN.cell 2; have f1 := BN.frozen 1; have f2 := BN.frozen 2; have BN1 := BN; have BY := hide BN1; have l0 := BN1.cell 0; have l1 := BN1.cell 1; have l2 := BN1.cell 2; have Q3 := hide ((P2.out.alloc (.cells #[.string ⟨#[114, 117, 110]⟩, .string ⟨#[116, 105, 99, 107]⟩, .string ⟨#[105, 110, 116, 101, 114, 114, 117, 112, 116]⟩] 9)).alloc (.cells #[.int .i64 1, .int .i64 0, .int .i64 n] 26)); clear BN1; try simp only [hY])
          | (go_at_call 8; (with_reducible refine (LN.out _ (O0.out.trans0 Q3.out)).mono ?_); rintro e w4 ⟨rfl, o⟩; have BX := B0.out.only (Q3.out.trans0 o) (by simp); have x0 := BX.cell 0; have x1 := BX.cell 1; have x2 := BX.cell 2; have g0 := BX.frozen 0; have g1 := BX.frozen 1; have g2 := BX.frozen 2; have BXH := hide BX; have BY4 := BY.out.only o (by simp); have y0 := BY4.cell 0; have y1 := BY4.cell 1; have y2 := BY4.cell 2; have O4 := hide (O0.out.trans0 (Q3.out.trans0 o)); clear o BX BY4))
        have BF := ((BXH.out.set_ 0 (.int .i64 (0))).set_ 1 (.int .i64 (0))).set_ 2 (.int .i64 (0))
        refine bodyPost_ret (v := .tuple #[.agg #[.int .i64 0, .int .i64 0, .int .i64 0], .int .i64 4]) (results_cell2 Tryz.results9 rfl rfl (load26 (a := .int .i64 (0)) (b := .int .i64 (0)) (c := .int .i64 (0)) (by simpa using BF))) rfl ⟨?_, ?_⟩
        · rw [HF.out]; rfl
        · exact ((O4.out.setCell (p := ⟨X, 0, none⟩) (.inr (by simp only; omega)) _).setCell (p := ⟨X, 1, none⟩) (.inr (by simp only; omega)) _).setCell (p := ⟨X, 2, none⟩) (.inr (by simp only; omega)) _
  · -- the word of number 2
    have HF1 := hide (show unlF s = if mayS ⟨⟨2, 0⟩, n⟩ = true ∧ lineT ⟨⟨2, 0⟩, n⟩ = s then some ⟨⟨2, 0⟩, n⟩ else none from HF.out)
    clear HF
    cases hm : mayS ⟨⟨2, 0⟩, n⟩ with
    | false =>
      have LN := hide (fun W => sline_bad 2 (0) (n) W hm)
      have HF := hide (show unlF s = none by rw [HF1.out, if_neg (fun h => by rw [hm] at h; exact absurd h.1 (by decide))])
      clear HF1 hm
      go_enter Tryz.func9, Tryz.ntmps9
      go_wp2_with (first
        | (go_at_call 32; (with_reducible refine (CT.out _ O0.out).mono ?_); rintro e w1 ⟨rfl, o⟩; have P1 := hide o; clear o)
        | (go_at_call 33; (with_reducible refine (AT.out _ (O0.out.trans0 P1.out)).mono ?_); rintro e w2 ⟨⟨er, rfl⟩, o⟩; have P2 := hide (P1.out.trans0 o); have b2 := hide (Blk.new w2 9 #[.string ⟨#[114, 117, 110]⟩, .string ⟨#[116, 105, 99, 107]⟩, .string ⟨#[105, 110, 116, 101, 114, 114, 117, 112, 116]⟩]); clear o)
        | (go_at_call 34; (with_reducible refine (IX.out _ _ b2.out).mono ?_); rintro e w3 ⟨rfl, hw⟩; obtain rfl := hw.symm; clear hw; have BN := Blk.new (w2.alloc (.cells #[.string ⟨#[114, 117, 110]⟩, .string ⟨#[116, 105, 99, 107]⟩, .string ⟨#[105, 110, 116, 101, 114, 114, 117, 112, 116]⟩] 9)) 26 #[.int .i64 2, .int .i64 0, .int .i64 n]; rw [World.size_alloc] at BN; obtain ⟨Y, hY⟩ : ∃ Y, w2.heap.size + 1 = Y := ⟨_, rfl⟩; simp only [hY] at BN; have k0 := BN.cell 0; have k1 := BN.cell 1; have k2 := BN.cell 2; have f1 := BN.frozen 1; have f2 := BN.frozen 2; have BN1 := BN; have BY := hide BN1; have l0 := BN1.cell 0; have l1 := BN1.cell 1; have l2 := BN1.cell 2; have Q3 := hide ((P2.out.alloc (.cells #[.string ⟨#[114, 117, 110]⟩, .string ⟨#[116, 105, 99, 107]⟩, .string ⟨#[105, 110, 116, 101, 114, 114, 117, 112, 116]⟩] 9)).alloc (.cells #[.int .i64 2, .int .i64 0, .int .i64 n] 26)); clear BN1; try simp only [hY])
        | (go_at_call 8; (with_reducible refine (LN.out _).mono ?_); rintro e w4 ⟨rfl, o⟩; have BX := B0.out.only (Q3.out.trans0 o) (by simp); have x0 := BX.cell 0; have x1 := BX.cell 1; have x2 := BX.cell 2; have g0 := BX.frozen 0; have g1 := BX.frozen 1; have g2 := BX.frozen 2; have BXH := hide BX; have BY4 := BY.out.only o (by simp); have y0 := BY4.cell 0; have y1 := BY4.cell 1; have y2 := BY4.cell 2; have O4 := hide (O0.out.trans0 (Q3.out.trans0 o)); clear o BX BY4))
      have BF := ((BXH.out.set_ 0 (.int .i64 (0))).set_ 1 (.int .i64 (0))).set_ 2 (.int .i64 (0))
      refine bodyPost_ret (v := .tuple #[.agg #[.int .i64 0, .int .i64 0, .int .i64 0], .int .i64 4]) (results_cell2 Tryz.results9 rfl rfl (load26 (a := .int .i64 (0)) (b := .int .i64 (0)) (c := .int .i64 (0)) (by simpa using BF))) rfl ⟨?_, ?_⟩
      · rw [HF.out]; rfl
      · exact ((O4.out.setCell (p := ⟨X, 0, none⟩) (.inr (by simp only; omega)) _).setCell (p := ⟨X, 1, none⟩) (.inr (by simp only; omega)) _).setCell (p := ⟨X, 2, none⟩) (.inr (by simp only; omega)) _
    | true =>
      have LN := (fun W (o : Only [] w W) => sline_good 2 (0) (n) W (HE.out.only o) hm)
      by_cases hl : lineT ⟨⟨2, 0⟩, n⟩ = s
      · have HF := hide (show unlF s = some ⟨⟨2, 0⟩, n⟩ by rw [HF1.out, if_pos ⟨hm, hl⟩])
        rw [hl] at LN
        have LN := hide LN
        clear HF1 hm hl
        go_enter Tryz.func9, Tryz.ntmps9
        go_wp2_with (first
          | (go_at_call 32; (with_reducible refine (CT.out _ O0.out).mono ?_); rintro e w1 ⟨rfl, o⟩; have P1 := hide o; clear o)
          | (go_at_call 33; (with_reducible refine (AT.out _ (O0.out.trans0 P1.out)).mono ?_); rintro e w2 ⟨⟨er, rfl⟩, o⟩; have P2 := hide (P1.out.trans0 o); have b2 := hide (Blk.new w2 9 #[.string ⟨#[114, 117, 110]⟩, .string ⟨#[116, 105, 99, 107]⟩, .string ⟨#[105, 110, 116, 101, 114, 114, 117, 112, 116]⟩]); clear o)
          | (go_at_call 34; (with_reducible refine (IX.out _ _ b2.out).mono ?_); rintro e w3 ⟨rfl, hw⟩; obtain rfl := hw.symm; clear hw; have BN := Blk.new (w2.alloc (.cells #[.string ⟨#[114, 117, 110]⟩, .string ⟨#[116, 105, 99, 107]⟩, .string ⟨#[105, 110, 116, 101, 114, 114, 117, 112, 116]⟩] 9)) 26 #[.int .i64 2, .int .i64 0, .int .i64 n]; rw [World.size_alloc] at BN; obtain ⟨Y, hY⟩ : ∃ Y, w2.heap.size + 1 = Y := ⟨_, rfl⟩; simp only [hY] at BN; have k0 := BN.cell 0; have k1 := BN.cell 1; have k2 := BN.cell 2; have f1 := BN.frozen 1; have f2 := BN.frozen 2; have BN1 := BN; have BY := hide BN1; have l0 := BN1.cell 0; have l1 := BN1.cell 1; have l2 := BN1.cell 2; have Q3 := hide ((P2.out.alloc (.cells #[.string ⟨#[114, 117, 110]⟩, .string ⟨#[116, 105, 99, 107]⟩, .string ⟨#[105, 110, 116, 101, 114, 114, 117, 112, 116]⟩] 9)).alloc (.cells #[.int .i64 2, .int .i64 0, .int .i64 n] 26)); clear BN1; try simp only [hY])
          | (go_at_call 8; (with_reducible refine (LN.out _ (O0.out.trans0 Q3.out)).mono ?_); rintro e w4 ⟨rfl, o⟩; have BX := B0.out.only (Q3.out.trans0 o) (by simp); have x0 := BX.cell 0; have x1 := BX.cell 1; have x2 := BX.cell 2; have g0 := BX.frozen 0; have g1 := BX.frozen 1; have g2 := BX.frozen 2; have BXH := hide BX; have BY4 := BY.out.only o (by simp); have y0 := BY4.cell 0; have y1 := BY4.cell 1; have y2 := BY4.cell 2; have O4 := hide (O0.out.trans0 (Q3.out.trans0 o)); clear o BX BY4))
        have BF := ((BXH.out.set_ 0 (.int .i64 (2))).set_ 1 (.int .i64 (0))).set_ 2 (.int .i64 (n))
        refine bodyPost_ret (v := .tuple #[.agg #[.int .i64 2, .int .i64 0, .int .i64 n], .int .i64 0]) (results_cell2 Tryz.results9 rfl rfl (load26 (a := .int .i64 (2)) (b := .int .i64 (0)) (c := .int .i64 (n)) (by simpa using BF))) rfl ⟨?_, ?_⟩
        · rw [HF.out]; rfl
        · exact ((O4.out.setCell (p := ⟨X, 0, none⟩) (.inr (by simp only; omega)) _).setCell (p := ⟨X, 1, none⟩) (.inr (by simp only; omega)) _).setCell (p := ⟨X, 2, none⟩) (.inr (by simp only; omega)) _
      · have HF := hide (show unlF s = none by rw [HF1.out, if_neg (fun h => hl h.2)])
        have bne : ((bs (lineT ⟨⟨2, 0⟩, n⟩)).toList == (bs s).toList) = false := by rw [bs_eq]; simpa using hl
        obtain ⟨tl, htl⟩ : ∃ x, bs (lineT ⟨⟨2, 0⟩, n⟩) = x := ⟨_, rfl⟩
        rw [htl] at LN bne
        have bne2 : (tl.toList != (bs s).toList) = true := by simp [bne, bne_iff_ne]; simpa using bne
        have LN := hide LN
        clear HF1 hm hl htl
        go_enter Tryz.func9, Tryz.ntmps9
        go_wp2_with (first
          | (go_at_call 32; (with_reducible refine (CT.out _ O0.out).mono ?_); rintro e w1 ⟨rfl, o⟩; have P1 := hide o; clear o)
          | (go_at_call 33; (with_reducible refine (AT.out _ (O0.out.trans0 P1.out)).mono ?_); rintro e w2 ⟨⟨er, rfl⟩, o⟩; have P2 := hide (P1.out.trans0 o); have b2 := hide (Blk.new w2 9 #[.string ⟨#[114, 117, 110]⟩, .string ⟨#[116, 105, 99, 107]⟩, .string ⟨#[105, 110, 116, 101, 114, 114, 117, 112, 116]⟩]); clear o)
          | (go_at_call 34; (with_reducible refine (IX.out _ _ b2.out).mono ?_); rintro e w3 ⟨rfl, hw⟩; obtain rfl := hw.symm; clear hw; have BN := Blk.new (w2.alloc (.cells #[.string ⟨#[114, 117, 110]⟩, .string ⟨#[116, 105, 99, 107]⟩, .string ⟨#[105, 110, 116, 101, 114, 114, 117, 112, 116]⟩] 9)) 26 #[.int .i64 2, .int .i64 0, .int .i64 n]; rw [World.size_alloc] at BN; obtain ⟨Y, hY⟩ : ∃ Y, w2.heap.size + 1 = Y := ⟨_, rfl⟩; simp only [hY] at BN; have k0 := BN.cell 0; have k1 := BN.cell 1; have k2 := BN.cell 2; have f1 := BN.frozen 1; have f2 := BN.frozen 2; have BN1 := BN; have BY := hide BN1; have l0 := BN1.cell 0; have l1 := BN1.cell 1; have l2 := BN1.cell 2; have Q3 := hide ((P2.out.alloc (.cells #[.string ⟨#[114, 117, 110]⟩, .string ⟨#[116, 105, 99, 107]⟩, .string ⟨#[105, 110, 116, 101, 114, 114, 117, 112, 116]⟩] 9)).alloc (.cells #[.int .i64 2, .int .i64 0, .int .i64 n] 26)); clear BN1; try simp only [hY])
          | (go_at_call 8; (with_reducible refine (LN.out _ (O0.out.trans0 Q3.out)).mono ?_); rintro e w4 ⟨rfl, o⟩; have BX := B0.out.only (Q3.out.trans0 o) (by simp); have x0 := BX.cell 0; have x1 := BX.cell 1; have x2 := BX.cell 2; have g0 := BX.frozen 0; have g1 := BX.frozen 1; have g2 := BX.frozen 2; have BXH := hide BX; have BY4 := BY.out.only o (by simp); have y0 := BY4.cell 0; have y1 := BY4.cell 1; have y2 := BY4.cell 2; have O4 := hide (O0.out.trans0 (Q3.out.trans0 o)); clear o BX BY4))
        have BF := ((BXH.out.set_ 0 (.int .i64 (0))).set_ 1 (.int .i64 (0))).set_ 2 (.int .i64 (0))
        refine bodyPost_ret (v := .tuple #[.agg #[.int .i64 0, .int .i64 0, .int .i64 0], .int .i64 4]) (results_cell2 Tryz.results9 rfl rfl (load26 (a := .int .i64 (0)) (b := .int .i64 (0)) (c := .int .i64 (0)) (by simpa using BF))) rfl ⟨?_, ?_⟩
        · rw [HF.out]; rfl
        · exact ((O4.out.setCell (p := ⟨X, 0, none⟩) (.inr (by simp only; omega)) _).setCell (p := ⟨X, 1, none⟩) (.inr (by simp only; omega)) _).setCell (p := ⟨X, 2, none⟩) (.inr (by simp only; omega)) _
  · -- the word of number 3
    have HF1 := hide (show unlF s = if mayS ⟨⟨3, n⟩, 1⟩ = true ∧ lineT ⟨⟨3, n⟩, 1⟩ = s then some ⟨⟨3, n⟩, 1⟩ else none from HF.out)
    clear HF
    cases hm : mayS ⟨⟨3, n⟩, 1⟩ with
    | false =>
      have LN := hide (fun W => sline_bad 3 (n) (1) W hm)
      have HF := hide (show unlF s = none by rw [HF1.out, if_neg (fun h => by rw [hm] at h; exact absurd h.1 (by decide))])
      clear HF1 hm
      go_enter Tryz.func9, Tryz.ntmps9
      go_wp2_with (first
        | (go_at_call 32; (with_reducible refine (CT.out _ O0.out).mono ?_); rintro e w1 ⟨rfl, o⟩; have P1 := hide o; clear o)
        | (go_at_call 33; (with_reducible refine (AT.out _ (O0.out.trans0 P1.out)).mono ?_); rintro e w2 ⟨⟨er, rfl⟩, o⟩; have P2 := hide (P1.out.trans0 o); have b2 := hide (Blk.new w2 9 #[.string ⟨#[114, 117, 110]⟩, .string ⟨#[116, 105, 99, 107]⟩, .string ⟨#[105, 110, 116, 101, 114, 114, 117, 112, 116]⟩]); clear o)
        | (go_at_call 34; (with_reducible refine (IX.out _ _ b2.out).mono ?_); rintro e w3 ⟨rfl, hw⟩; obtain rfl := hw.symm; clear hw; have BN := Blk.new (w2.alloc (.cells #[.string ⟨#[114, 117, 110]⟩, .string ⟨#[116, 105, 99, 107]⟩, .string ⟨#[105, 110, 116, 101, 114, 114, 117, 112, 116]⟩] 9)) 26 #[.int .i64 3, .int .i64 n, .int .i64 1]; rw [World.size_alloc] at BN; obtain ⟨Y, hY⟩ : ∃ Y, w2.heap.size + 1 = Y := ⟨_, rfl⟩; simp only [hY] at BN; have k0 := BN.cell 0; have k1 := BN.cell 1; have k2 := BN.cell 2; have f1 := BN.frozen 1; have f2 := BN.frozen 2; have BN1 := BN; have BY := hide BN1; have l0 := BN1.cell 0; have l1 := BN1.cell 1; have l2 := BN1.cell 2; have Q3 := hide ((P2.out.alloc (.cells #[.string ⟨#[114, 117, 110]⟩, .string ⟨#[116, 105, 99, 107]⟩, .string ⟨#[105, 110, 116, 101, 114, 114, 117, 112, 116]⟩] 9)).alloc (.cells #[.int .i64 3, .int .i64 n, .int .i64 1] 26)); clear BN1; try simp only [hY])
        | (go_at_call 8; (with_reducible refine (LN.out _).mono ?_); rintro e w4 ⟨rfl, o⟩; have BX := B0.out.only (Q3.out.trans0 o) (by simp); have x0 := BX.cell 0; have x1 := BX.cell 1; have x2 := BX.cell 2; have g0 := BX.frozen 0; have g1 := BX.frozen 1; have g2 := BX.frozen 2; have BXH := hide BX; have BY4 := BY.out.only o (by simp); have y0 := BY4.cell 0; have y1 := BY4.cell 1; have y2 := BY4.cell 2; have O4 := hide (O0.out.trans0 (Q3.out.trans0 o)); clear o BX BY4))
      have BF := ((BXH.out.set_ 0 (.int .i64 (0))).set_ 1 (.int .i64 (0))).set_ 2 (.int .i64 (0))
      refine bodyPost_ret (v := .tuple #[.agg #[.int .i64 0, .int .i64 0, .int .i64 0], .int .i64 4]) (results_cell2 Tryz.results9 rfl rfl (load26 (a := .int .i64 (0)) (b := .int .i64 (0)) (c := .int .i64 (0)) (by simpa using BF))) rfl ⟨?_, ?_⟩
      · rw [HF.out]; rfl
      · exact ((O4.out.setCell (p := ⟨X, 0, none⟩) (.inr (by simp only; omega)) _).setCell (p := ⟨X, 1, none⟩) (.inr (by simp only; omega)) _).setCell (p := ⟨X, 2, none⟩) (.inr (by simp only; omega)) _
    | true =>
      have LN := (fun W (o : Only [] w W) => sline_good 3 (n) (1) W (HE.out.only o) hm)
      by_cases hl : lineT ⟨⟨3, n⟩, 1⟩ = s
      · have HF := hide (show unlF s = some ⟨⟨3, n⟩, 1⟩ by rw [HF1.out, if_pos ⟨hm, hl⟩])
        rw [hl] at LN
        have LN := hide LN
        clear HF1 hm hl
        go_enter Tryz.func9, Tryz.ntmps9
        go_wp2_with (first
          | (go_at_call 32; (with_reducible refine (CT.out _ O0.out).mono ?_); rintro e w1 ⟨rfl, o⟩; have P1 := hide o; clear o)
          | (go_at_call 33; (with_reducible refine (AT.out _ (O0.out.trans0 P1.out)).mono ?_); rintro e w2 ⟨⟨er, rfl⟩, o⟩; have P2 := hide (P1.out.trans0 o); have b2 := hide (Blk.new w2 9 #[.string ⟨#[114, 117, 110]⟩, .string ⟨#[116, 105, 99, 107]⟩, .string ⟨#[105, 110, 116, 101, 114, 114, 117, 112, 116]⟩]); clear o)
          | (go_at_call 34; (with_reducible refine (IX.out _ _ b2.out).mono ?_); rintro e w3 ⟨rfl, hw⟩; obtain rfl := hw.symm; clear hw; have BN := Blk.new (w2.alloc (.cells #[.string ⟨#[114, 117, 110]⟩, .string ⟨#[116, 105, 99, 107]⟩, .string ⟨#[105, 110, 116, 101, 114, 114, 117, 112, 116]⟩] 9)) 26 #[.int .i64 3, .int .i64 n, .int .i64 1]; rw [World.size_alloc] at BN; obtain ⟨Y, hY⟩ : ∃ Y, w2.heap.size + 1 = Y := ⟨_, rfl⟩; simp only [hY] at BN; have k0 := BN.cell 0; have k1 := BN.cell 1; have k2 := BN.cell 2; have f1 := BN.frozen 1; have f2 := BN.frozen 2; have BN1 := BN; have BY := hide BN1; have l0 := BN1.cell 0; have l1 := BN1.cell 1; have l2 := BN1.cell 2; have Q3 := hide ((P2.out.alloc (.cells #[.string ⟨#[114, 117, 110]⟩, .string ⟨#[116, 105, 99, 107]⟩, .string ⟨#[105, 110, 116, 101, 114, 114, 117, 112, 116]⟩] 9)).alloc (.cells #[.int .i64 3, .int .i64 n, .int .i64 1] 26)); clear BN1; try simp only [hY])
          | (go_at_call 8; (with_reducible refine (LN.out _ (O0.out.trans0 Q3.out)).mono ?_); rintro e w4 ⟨rfl, o⟩; have BX := B0.out.only (Q3.out.trans0 o) (by simp); have x0 := BX.cell 0; have x1 := BX.cell 1; have x2 := BX.cell 2; have g0 := BX.frozen 0; have g1 := BX.frozen 1; have g2 := BX.frozen 2; have BXH := hide BX; have BY4 := BY.out.only o (by simp); have y0 := BY4.cell 0; have y1 := BY4.cell 1; have y2 := BY4.cell 2; have O4 := hide (O0.out.trans0 (Q3.out.trans0 o)); clear o BX BY4))
        have BF := ((BXH.out.set_ 0 (.int .i64 (3))).set_ 1 (.int .i64 (n))).set_ 2 (.int .i64 (1))
        refine bodyPost_ret (v := .tuple #[.agg #[.int .i64 3, .int .i64 n, .int .i64 1], .int .i64 0]) (results_cell2 Tryz.results9 rfl rfl (load26 (a := .int .i64 (3)) (b := .int .i64 (n)) (c := .int .i64 (1)) (by simpa using BF))) rfl ⟨?_, ?_⟩
        · rw [HF.out]; rfl
        · exact ((O4.out.setCell (p := ⟨X, 0, none⟩) (.inr (by simp only; omega)) _).setCell (p := ⟨X, 1, none⟩) (.inr (by simp only; omega)) _).setCell (p := ⟨X, 2, none⟩) (.inr (by simp only; omega)) _
      · have HF := hide (show unlF s = none by rw [HF1.out, if_neg (fun h => hl h.2)])
        have bne : ((bs (lineT ⟨⟨3, n⟩, 1⟩)).toList == (bs s).toList) = false := by rw [bs_eq]; simpa using hl
        obtain ⟨tl, htl⟩ : ∃ x, bs (lineT ⟨⟨3, n⟩, 1⟩) = x := ⟨_, rfl⟩
        rw [htl] at LN bne
        have bne2 : (tl.toList != (bs s).toList) = true := by simp [bne, bne_iff_ne]; simpa using bne
        have LN := hide LN
        clear HF1 hm hl htl
        go_enter Tryz.func9, Tryz.ntmps9
        go_wp2_with (first
          | (go_at_call 32; (with_reducible refine (CT.out _ O0.out).mono ?_); rintro e w1 ⟨rfl, o⟩; have P1 := hide o; clear o)
          | (go_at_call 33; (with_reducible refine (AT.out _ (O0.out.trans0 P1.out)).mono ?_); rintro e w2 ⟨⟨er, rfl⟩, o⟩; have P2 := hide (P1.out.trans0 o); have b2 := hide (Blk.new w2 9 #[.string ⟨#[114, 117, 110]⟩, .string ⟨#[116, 105, 99, 107]⟩, .string ⟨#[105, 110, 116, 101, 114, 114, 117, 112, 116]⟩]); clear o)
          | (go_at_call 34; (with_reducible refine (IX.out _ _ b2.out).mono ?_); rintro e w3 ⟨rfl, hw⟩; obtain rfl := hw.symm; clear hw; have BN := Blk.new (w2.alloc (.cells #[.string ⟨#[114, 117, 110]⟩, .string ⟨#[116, 105, 99, 107]⟩, .string ⟨#[105, 110, 116, 101, 114, 114, 117, 112, 116]⟩] 9)) 26 #[.int .i64 3, .int .i64 n, .int .i64 1]; rw [World.size_alloc] at BN; obtain ⟨Y, hY⟩ : ∃ Y, w2.heap.size + 1 = Y := ⟨_, rfl⟩; simp only [hY] at BN; have k0 := BN.cell 0; have k1 := BN.cell 1; have k2 := BN.cell 2; have f1 := BN.frozen 1; have f2 := BN.frozen 2; have BN1 := BN; have BY := hide BN1; have l0 := BN1.cell 0; have l1 := BN1.cell 1; have l2 := BN1.cell 2; have Q3 := hide ((P2.out.alloc (.cells #[.string ⟨#[114, 117, 110]⟩, .string ⟨#[116, 105, 99, 107]⟩, .string ⟨#[105, 110, 116, 101, 114, 114, 117, 112, 116]⟩] 9)).alloc (.cells #[.int .i64 3, .int .i64 n, .int .i64 1] 26)); clear BN1; try simp only [hY])
          | (go_at_call 8; (with_reducible refine (LN.out _ (O0.out.trans0 Q3.out)).mono ?_); rintro e w4 ⟨rfl, o⟩; have BX := B0.out.only (Q3.out.trans0 o) (by simp); have x0 := BX.cell 0; have x1 := BX.cell 1; have x2 := BX.cell 2; have g0 := BX.frozen 0; have g1 := BX.frozen 1; have g2 := BX.frozen 2; have BXH := hide BX; have BY4 := BY.out.only o (by simp); have y0 := BY4.cell 0; have y1 := BY4.cell 1; have y2 := BY4.cell 2; have O4 := hide (O0.out.trans0 (Q3.out.trans0 o)); clear o BX BY4))
        have BF := ((BXH.out.set_ 0 (.int .i64 (0))).set_ 1 (.int .i64 (0))).set_ 2 (.int .i64 (0))
        refine bodyPost_ret (v := .tuple #[.agg #[.int .i64 0, .int .i64 0, .int .i64 0], .int .i64 4]) (results_cell2 Tryz.results9 rfl rfl (load26 (a := .int .i64 (0)) (b := .int .i64 (0)) (c := .int .i64 (0)) (by simpa using BF))) rfl ⟨?_, ?_⟩
        · rw [HF.out]; rfl
        · exact ((O4.out.setCell (p := ⟨X, 0, none⟩) (.inr (by simp only; omega)) _).setCell (p := ⟨X, 1, none⟩) (.inr (by simp only; omega)) _).setCell (p := ⟨X, 2, none⟩) (.inr (by simp only; omega)) _
end Go.Proofs.YteblhklclcjonaaGreatDoor
