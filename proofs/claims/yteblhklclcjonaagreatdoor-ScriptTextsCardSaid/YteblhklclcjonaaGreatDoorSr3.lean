/- Script: the walk of instruction. Condition: the reader lies. -/
import Derived.Test.YteblhklclcjonaaGreatDoorSr2
import Derived.Test.YteblhklclcjonaaGreatDoorCd4
import Derived.BigRegion
namespace Go.Proofs.YteblhklclcjonaaGreatDoor
open Go.RowKit
set_option linter.unusedVariables false
set_option linter.all false
set_option maxRecDepth 20000
attribute [local go_sem ↓] app_hide

theorem app_ins2 (W : World) (B : Nat) (A : Option Addr) (c : Nat) (l : List Ins) (i : Ins) (hrow : Is W B A c l) (hl : l.length ≤ 100000) (hB : B ≤ W.heap.size) :
    ∃ g' c' w2, (AppH #[67, 67] 67 #[.slice A l.length c, .slice (some ⟨W.heap.size, 0, none⟩) 1 1]).run Tryz.prog (W.alloc (.cells (insV i) 99)) = .ok (.slice (some ⟨g', 0, none⟩) (l.length + 1) c') w2 ∧
      Is w2 B (some ⟨g', 0, none⟩) c' (l ++ [i]) ∧ Only (blkOf A) W w2 ∧ (g' ∈ blkOf A ∨ W.heap.size ≤ g') := by
  obtain ⟨i0, hi, hz0, hz1, hz2⟩ := info_parts info24b
  obtain ⟨g', cap', w2, hrun, hown, ho, hgg⟩ := append_at (P := Tryz.prog) (W.alloc (.cells (insV i) 99)) B 67 67 99 i0 (.agg z5) 5 40 Tryz.underlying67 hi hz0 hz1 hz2 rfl (by omega) A l.length c (GI l) (own_only' hrow ((Only.refl [] W).alloc _) (by simp))
    ⟨W.heap.size, 0, none⟩ 1 1 (insV i).toList rfl (fun j u hj => by
      have := (Blk.new W 99 (insV i)).cell j
      rw [add_mk, Nat.zero_add, this]
      rw [← Array.getElem?_toList]
      exact hj) (by intro u hu; simp [insV] at hu; rcases hu with rfl | rfl | rfl | rfl | rfl <;> rfl) (.inl (by omega)) (by unfold maxLen; omega) (by omega) (by simp; omega)
  rw [app_hide] at hrun
  have e : GI l ++ (insV i).toList = GI (l ++ [i]) := by rw [GI_append]; simp [GI]
  rw [e] at hown
  refine ⟨g', cap', w2, hrun, by unfold Is; simpa using hown, ((Only.refl (blkOf A) W).alloc _).trans' ho, ?_⟩
  rcases hgg with h | h
  · exact .inl h
  · rw [World.size_alloc] at h
    exact .inr (by omega)
set_option maxHeartbeats 8000000 in
theorem inst_any (B R : Nat) (v : Nat → Int) (r : Rd) (i : Ins) (len : Int) (hp : r.at' = 1 → r.ps ≠ []) (hl : (r.ps.getLastD []).length ≤ 256) (hn : r.ps.length ≤ 32) (w : World) (h : RdAt w B R v r) (hB : B ≤ w.heap.size) :
    Calls Tryz.prog 80 #[.pointer (some ⟨R, 0, none⟩), .agg (insV i), .int .i64 len] w fun e w' => EvAns w' B R v e (inR r i len) ∧ Below B w w' := by
  obtain ⟨hBR, A, c, vs, TA, tc, EA, ec, h1, h2, h3, h4⟩ := h
  obtain ⟨ps, ts, es, a⟩ := r
  simp only at h1 h2 h3 h4 hp hl hn
  obtain ⟨X, hX⟩ : ∃ X, w.heap.size = X := ⟨_, rfl⟩
  have OA := (Only.refl [] w).alloc (.cells (insV i) 99)
  have BX := Blk.new w 99 (insV i)
  rw [hX] at BX
  obtain ⟨W0, hW0⟩ : ∃ W0, w.alloc (.cells (insV i) 99) = W0 := ⟨_, rfl⟩
  rw [hW0] at OA BX
  have hW0 := (show w.alloc (.cells #[.int .i64 i.op, .int .i64 i.d, .int .i64 i.a, .int .i64 i.b, .int .i64 i.imm] 99) = W0 from hW0)
  have H1 := hide (h1.only OA (by simp))
  have H2 := hide (h2.only0 OA)
  have H3 := hide (h3.only0 OA)
  have H4 := hide (h4.only0 OA)
  have HX := hide BX
  have O0 := hide OA
  have hRX : R ≠ X := by have := h1.lt; omega
  have k9 := H1.out.cell 9
  unfold rd10 at k9
  clear h1 h2 h3 h4 OA
  by_cases a1 : a = 1
  · have b1 : ((a : Int) != 1) = false := by simp; omega
    obtain ⟨qs, p, rfl⟩ := snoc_of (hp a1)
    have hlv := H2.out.len
    obtain ⟨us, y, hus⟩ : ∃ us y, vs = us ++ [y] := snoc_of (by intro h0; rw [h0] at hlv; simp at hlv)
    subst hus
    obtain ⟨y1, y2⟩ := y
    have hpl : p.length ≤ 256 := by simpa using hl
    clear hp hl hlv
    obtain ⟨g, rfl, hc, hf, hI, hul⟩ := H2.out.last
    simp only at hc
    obtain ⟨L, hL⟩ : ∃ L, (qs ++ [p]).length = L := ⟨_, rfl⟩
    obtain ⟨q, hq⟩ : ∃ q, qs.length = q := ⟨_, rfl⟩
    obtain ⟨m, hm⟩ : ∃ m, p.length = m := ⟨_, rfl⟩
    have hLq : L = q + 1 := by rw [← hL, ← hq]; simp
    obtain ⟨mb, hmb⟩ : ∃ mb, mayI i len = mb := ⟨_, rfl⟩
    have MA := hide (fun W => may_any i len W)
    unfold insV at MA
    rw [hmb] at MA
    have x0 := BX.cell 0
    have x1 := BX.cell 1
    have x2 := BX.cell 2
    have x3 := BX.cell 3
    have x4 := BX.cell 4
    unfold insV at x0 x1 x2 x3 x4
    have HMB := hide hmb
    have hL32 : L ≤ 32 := by omega
    have hm256 : m ≤ 256 := by omega
    have HL := hide hL
    have HQ := hide hq
    have HM := hide hm
    have HA1 := hide a1
    have HLQ := hide hLq
    rw [hq, hm] at hc
    have HC := hide hc
    have HF := hide hf
    have HI := hide hI
    clear hmb hL hq hm a1 hLq hc hf hI BX hn hpl
    cases mb
    · have HN := hide (show inR ⟨qs ++ [p], ts, es, a⟩ i len = none from if_pos (.inr (.inl HMB.out)))
      unfold insV
      go_enter Tryz.func80, Tryz.ntmps80
      go_wp2_with (go_at_call 92; (with_reducible refine (MA.out _).mono ?_); rintro e w1 ⟨rfl, o1⟩; have O1 := hide o1; clear o1)
      go_ret
      exact ⟨by rw [HN.out]; exact rfl, ((O0.out.trans0 O1.out).below).mono hB⟩
    · unfold insV
      go_enter Tryz.func80, Tryz.ntmps80
      go_wp2_with (go_at_call 92; (with_reducible refine (MA.out _).mono ?_); rintro e w1 ⟨rfl, o1⟩; have O1 := hide o1; have k6 := ((H1.out.only o1 (by simp)).cell 6); unfold rd10 at k6; clear o1)
      rw [HL.out] at k6
      have i1 : (L : Int) - 1 = (q : Int) := by have := HLQ.out; omega
      have i2 : (0 : Int) ≤ (q : Int) := by omega
      have i3 : (q : Int) < (L : Int) := by have := HLQ.out; omega
      have i3n : q < L := by have := HLQ.out; omega
      go_quiet (fail)
      have OD := (Only.refl [] w1).drewN nq
      have H1 := hide (H1.out.only (O1.out.trans0 OD) (by simp))
      have H2 := hide (H2.out.only0 (O1.out.trans0 OD))
      have H3 := hide (H3.out.only0 (O1.out.trans0 OD))
      have H4 := hide (H4.out.only0 (O1.out.trans0 OD))
      have HX := hide (HX.out.only (O1.out.trans0 OD) (by simp))
      have OB := hide ((((O0.out.trans0 O1.out).trans0 OD).below).mono hB)
      have hs1 := ((O0.out.trans0 O1.out).trans0 OD).size
      generalize w1.drewN nq = W1 at OD H1 H2 H3 H4 HX OB hs1 ⊢
      clear OD O0 O1 k6 k9 x0 x1 x2 x3 x4 HC HF HI
      obtain ⟨g', hA', hc, hf, hI, hul⟩ := H2.out.last
      simp only [Option.some.injEq, Addr.mk.injEq] at hA'
      obtain ⟨rfl, -⟩ := hA'
      simp only at hc
      rw [HQ.out, HM.out] at hc
      obtain ⟨A', c', w3, hrun, hI3, o3, hA4⟩ := app_ins2 W1.drew B y1 y2 p i (hI.only0 ((Only.refl [] W1).drew)) (by rw [HM.out]; omega) (by show B ≤ W1.heap.size; omega)
      rw [HM.out] at hrun
      have hA3 : ∀ k ∈ blkOf (some ⟨A', 0, none⟩), k ∈ blkOf y1 ∨ W1.heap.size ≤ k  := fun k hk => by
        simp [blkOf] at hk
        subst hk
        rcases hA4 with h | h
        · exact .inl h
        · exact .inr h
      have hrun : (AppH #[67, 67] 67 #[.slice y1 m y2, .slice (some ⟨W1.heap.size, 0, none⟩) 1 1]).run Tryz.prog (W1.alloc (.cells #[.int .i64 i.op, .int .i64 i.d, .int .i64 i.a, .int .i64 i.b, .int .i64 i.imm] 99)).drew = .ok (.slice (some ⟨A', 0, none⟩) (m + 1) c') w3 := hrun
      have o3' : Only (blkOf y1) W1 w3 := ((Only.refl (blkOf y1) W1).drew).trans' o3
      have P3 := H2.out.push hI3 o3' hA3
      have x0 := HX.out.cell 0
      have x1 := HX.out.cell 1
      have x2 := HX.out.cell 2
      have x3 := HX.out.cell 3
      have x4 := HX.out.cell 4
      unfold insV at x0 x1 x2 x3 x4
      obtain ⟨cg, hg⟩ := own_ty H2.out.row g (by simp [blkOf])
      have hgv : g ∉ blkOf y1 := fun hm => by
        obtain ⟨cs, h1⟩ := own_ty hI g hm
        exact Blk.ne_ hg h1 (by decide) rfl
      have hg3 := hg.only o3' hgv
      have y8 : w3.cell? ⟨g, q, none⟩ = some (.slice y1 m y2) := (hg3.cell q).trans (((hg.cell q)).symm.trans hc)
      have y8b : (W1.alloc (.cells #[.int .i64 i.op, .int .i64 i.d, .int .i64 i.a, .int .i64 i.b, .int .i64 i.imm] 99)).drew.cell? ⟨g, q, none⟩ = some (.slice y1 m y2) := (((hg.alloc (.cells #[.int .i64 i.op, .int .i64 i.d, .int .i64 i.a, .int .i64 i.b, .int .i64 i.imm] 99)).drew.cell q).trans ((hg.cell q)).symm).trans hc
      have yf := hg3.frozen q
      go_wp2_with fail
      go_region
      have OU := (Only.refl [g] w3).setCell (p := ⟨g, q, none⟩) (.inl (by simp)) (.slice (some ⟨A', 0, none⟩) (m + 1) c')
      have R3 := H1.out.only o3' (own_ne hI H1.out (by decide))
      have hgr : g ≠ R := fun h => by subst h; exact Blk.ne_ hg H1.out (by decide) rfl
      have U1 := hide (show Blk (w3.setCell ⟨g, q, none⟩ (.slice (some ⟨A', 0, none⟩) (m + 1) c')) R 101 (rd10 v (.slice (some ⟨g, 0, none⟩) (q + 1) c) (.slice TA ts.length tc) (.slice EA es.length ec) a) from by
        have := R3.far (p := ⟨g, q, none⟩) (Ne.symm hgr) (.slice (some ⟨A', 0, none⟩) (m + 1) c')
        rw [HL.out, HLQ.out] at this
        exact this)
      have U2 := hide P3
      have U2o := U2.out
      rw [HQ.out, HM.out] at U2o
      have U2 := hide U2o
      clear U2o
      have U3 := hide (show Qs (w3.setCell ⟨g, q, none⟩ (.slice (some ⟨A', 0, none⟩) (m + 1) c')) B TA tc (ts.map bs) from own_only' (own_only' H3.out o3' (fun k hk hm => own_apart hI H3.out (by decide) k hm hk)) OU (fun k hk hm => by simp at hm; subst hm; exact own_apart H2.out.row H3.out (by decide) k (by simp [blkOf]) hk))
      have U4 := hide (show Es (w3.setCell ⟨g, q, none⟩ (.slice (some ⟨A', 0, none⟩) (m + 1) c')) B EA ec es from own_only' (own_only' H4.out o3' (fun k hk hm => own_apart hI H4.out (by decide) k hm hk)) OU (fun k hk hm => by simp at hm; subst hm; exact own_apart H2.out.row H4.out (by decide) k (by simp [blkOf]) hk))
      have hgB : B ≤ g := (own_ge H2.out.row g (by simp [blkOf])).1
      have B3 : Below B w w3 := OB.out.trans ⟨o3'.os, o3'.tape, o3'.output, o3'.size, fun k hk => o3'.block k (by omega) (fun hm => by have := (own_ge hI k hm).1; omega)⟩
      have UB := hide (B3.setCell (p := ⟨g, q, none⟩) hgB (.slice (some ⟨A', 0, none⟩) (m + 1) c'))
      obtain ⟨g', hA', hcc, _, _, _⟩ := U2.out.last
      simp only [Option.some.injEq, Addr.mk.injEq] at hA'
      obtain ⟨rfl, -⟩ := hA'
      simp only [List.length_append, List.length_cons, List.length_nil, Nat.zero_add] at hcc
      rw [HQ.out, HM.out] at hcc
      clear H1 H2 H3 H4 HX OB x0 x1 x2 x3 x4 hg hg3 y8 y8b yf P3 OU R3 B3 hI hI3 o3 o3' hrun hc hf hul hA3 hA4
      by_cases ov : m + 1 ≤ 256
      · have d1 : decide ((m : Int) + 1 ≤ 256) = true := decide_eq_true (by omega)
        have d1b : (m : Int) + 1 ≤ 256 := by omega
        have HN := hide (show inR ⟨qs ++ [p], ts, es, a⟩ i len = some ⟨qs ++ [p ++ [i]], ts, es, a⟩ from by
          unfold inR
          rw [if_neg]
          · simp
          · rintro (h | h | h)
            · exact h HA1.out
            · rw [HMB.out] at h; cases h
            · simp at h; have := HM.out; omega)
        go_wp2_with fail
        go_ret
        refine ⟨?_, UB.out⟩
        rw [HN.out]
        refine ⟨?_, hBR, some ⟨g, 0, none⟩, c, us ++ [(some ⟨A', 0, none⟩, c')], TA, tc, EA, ec, ?_, U2.out, U3.out, U4.out⟩
        · first | rfl | (simp; omega)
        · have := U1.out
          simp only [List.length_append, List.length_cons, List.length_nil, Nat.zero_add, HQ.out]
          exact this
      · have d1 : decide ((m : Int) + 1 ≤ 256) = false := decide_eq_false (by omega)
        have d1b : ¬ (m : Int) + 1 ≤ 256 := by omega
        have HN := hide (show inR ⟨qs ++ [p], ts, es, a⟩ i len = none from if_pos (.inr (.inr (by simp; have := HM.out; omega))))
        go_wp2_with fail
        go_ret
        refine ⟨?_, UB.out⟩
        rw [HN.out]
        first | exact rfl | (show _ = _; simp; omega)
  · have b1 : ((a : Int) != 1) = true := by simp; omega
    have HN := hide (show inR ⟨ps, ts, es, a⟩ i len = none from if_pos (.inl a1))
    clear hp hl a1 BX
    unfold insV
    go_enter Tryz.func80, Tryz.ntmps80
    go_wp2_with fail
    go_ret
    exact ⟨by rw [HN.out]; exact rfl, (O0.out.below).mono hB⟩
end Go.Proofs.YteblhklclcjonaaGreatDoor
