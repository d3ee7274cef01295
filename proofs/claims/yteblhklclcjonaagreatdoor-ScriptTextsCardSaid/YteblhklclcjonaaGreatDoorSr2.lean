/- Script: the reader in memory; the walk of event. Condition: the reader lies. -/
import Derived.Test.YteblhklclcjonaaGreatDoorSk1
import Derived.Test.YteblhklclcjonaaGreatDoorSm1
import Derived.Test.YteblhklclcjonaaGreatDoorSc5
import Derived.BigRegion
namespace Go.Proofs.YteblhklclcjonaaGreatDoor
open Go.RowKit
set_option linter.unusedVariables false
set_option linter.all false
set_option maxRecDepth 20000
attribute [local go_sem ↓] app_hide

/-- A reader's cells. -/
def rd10 (v : Nat → Int) (p t e : Value) (a : Nat) : Array Value := #[.int .i64 (v 0), .int .i64 (v 1), .int .i64 (v 2), .int .i64 (v 3), .int .i64 (v 4), .int .i64 (v 5), p, t, e, .int .i64 a]
/-- A reader in memory: its own block, programs, texts and events in blocks of their own. -/
def RdAt (w : World) (B R : Nat) (v : Nat → Int) (r : Rd) : Prop := B ≤ R ∧ ∃ A c vs TA tc EA ec, Blk w R 101 (rd10 v (.slice A r.ps.length c) (.slice TA r.ts.length tc) (.slice EA r.es.length ec) r.at') ∧ Ps w B A c vs r.ps ∧ Qs w B TA tc (r.ts.map bs) ∧ Es w B EA ec r.es
theorem RdAt.only0 {w w' : World} {B R : Nat} {v : Nat → Int} {r : Rd} (h : RdAt w B R v r) (o : Only [] w w') : RdAt w' B R v r := by
  obtain ⟨hB, A, c, vs, TA, tc, EA, ec, h1, h2, h3, h4⟩ := h
  exact ⟨hB, A, c, vs, TA, tc, EA, ec, h1.only o (by simp), h2.only0 o, h3.only0 o, h4.only0 o⟩
theorem EvV_len (l : List Ev) : (EvV l).length = l.length * 2 := by
  induction l with
  | nil => rfl
  | cons x l ih =>
    have e : EvV (x :: l) = .int .i64 x.kind :: .int .i64 x.num :: EvV l := by simp [EvV]
    rw [e]
    simp only [List.length_cons, ih]
    omega
theorem EvV_get {l : List Ev} {k : Nat} {x : Ev} (h : l[k]? = some x) : (EvV l)[k * 2]? = some (.int .i64 x.kind) ∧ (EvV l)[k * 2 + 1]? = some (.int .i64 x.num) := by
  induction l generalizing k with
  | nil => simp at h
  | cons y l ih =>
    have e : EvV (y :: l) = .int .i64 y.kind :: .int .i64 y.num :: EvV l := by simp [EvV]
    cases k with
    | zero =>
      simp at h
      subst h
      rw [e]
      exact ⟨rfl, rfl⟩
    | succ k =>
      simp at h
      have := ih h
      rw [e, show (k + 1) * 2 = k * 2 + 2 by omega]
      simpa using this
theorem Es.cells {w : World} {B : Nat} {A : Option Addr} {c : Nat} {l : List Ev} (h : Es w B A c l) {k : Nat} {x : Ev} (hx : l[k]? = some x) : ∃ g, A = some ⟨g, 0, none⟩ ∧ w.cell? ⟨g, k * 2, none⟩ = some (.int .i64 x.kind) ∧ w.cell? ⟨g, k * 2 + 1, none⟩ = some (.int .i64 x.num) := by
  have hk : k < l.length := by
    rcases Nat.lt_or_ge k l.length with q | q
    · exact q
    · rw [List.getElem?_eq_none q] at hx; cases hx
  obtain ⟨g, rfl, h1, _⟩ := own_cell h (by omega)
  obtain ⟨a, b⟩ := EvV_get hx
  exact ⟨g, rfl, (h1 _ (by omega)).trans a, (h1 _ (by omega)).trans b⟩
/-- What an event's reading answers. -/
def EvAns (w' : World) (B R : Nat) (v : Nat → Int) (e : Ending) : Option Rd → Prop
  | some r' => e = .returned (.bool true) ∧ RdAt w' B R v r'
  | none => e = .returned (.bool false)
theorem eqEv2 (a b c d : Int) (W : World) : (binOp .eql 24 (.agg #[.int .i64 a, .int .i64 b]) (.agg #[.int .i64 c, .int .i64 d])).run Tryz.prog W = .ok (.bool (a == c && b == d)) W := by
  by_cases h1 : a = c <;> by_cases h2 : b = d <;> simp [go_sem, h1, h2]
set_option maxHeartbeats 8000000 in
theorem event_any (B R : Nat) (v : Nat → Int) (r : Rd) (k m : Int) (n : Nat) (hx : mayS ⟨⟨k, m⟩, n⟩ = true) (hes : r.es.length ≤ 8192) (w : World) (h : RdAt w B R v r) (hB : B ≤ w.heap.size) :
    Calls Tryz.prog 79 #[.pointer (some ⟨R, 0, none⟩), .agg #[.int .i64 k, .int .i64 m, .int .i64 n]] w fun e w' => EvAns w' B R v e (evR r ⟨⟨k, m⟩, n⟩) ∧ Below B w w' := by
  have hb := mayS_num hx
  simp only at hb
  obtain ⟨hBR, A, c, vs, TA, tc, EA, ec, h1, h2, h3, h4⟩ := h
  obtain ⟨ps, ts, es, a⟩ := r
  simp only at h1 h2 h3 h4 hes
  obtain ⟨X, hX⟩ : ∃ X, w.heap.size = X := ⟨_, rfl⟩
  have OA := (Only.refl [] w).alloc (.cells #[.int .i64 k, .int .i64 m, .int .i64 n] 26)
  have BX := Blk.new w 26 #[.int .i64 k, .int .i64 m, .int .i64 n]
  rw [hX] at BX
  obtain ⟨W0, hW0⟩ : ∃ W0, w.alloc (.cells #[.int .i64 k, .int .i64 m, .int .i64 n] 26) = W0 := ⟨_, rfl⟩
  rw [hW0] at OA BX
  have H1 := hide (h1.only OA (by simp))
  have H2 := hide (h2.only0 OA)
  have H3 := hide (h3.only0 OA)
  have H4 := hide (h4.only0 OA)
  have HX := hide BX
  have O0 := hide OA
  have hRX : R ≠ X := by have := h1.lt; omega
  have k6 := H1.out.cell 6
  have k7 := H1.out.cell 7
  have k8 := H1.out.cell 8
  have k9 := H1.out.cell 9
  have f8 := H1.out.frozen 8
  have f9 := H1.out.frozen 9
  have x0 := BX.cell 0
  have x1 := BX.cell 1
  have x2 := BX.cell 2
  unfold rd10 at k6 k7 k8 k9
  have HB := hide hb
  obtain ⟨ln, hln⟩ : ∃ ln, es.length = ln := ⟨_, rfl⟩
  rw [hln] at k8 hes
  have HLN := hide hln
  clear h1 h2 h3 h4 OA BX hb hx hln
  rcases List.eq_nil_or_concat es with he | ⟨ys, y, he⟩
  · have l0 : ln = 0 := by rw [← HLN.out, he]; rfl
    have i0 : ¬ (0 : Int) < (ln : Int) := by omega
    have i0d : decide ((0 : Int) < (ln : Int)) = false := decide_eq_false i0
    have i0n : decide (0 < ln) = false := decide_eq_false (by omega)
    have i0m : ¬ 0 < ln := by omega
    clear l0
    have HAG := hide (show again es ⟨⟨k, m⟩, n⟩ = false by rw [he]; unfold again; simp)
    clear he
    go_enter Tryz.func79, Tryz.ntmps79
    go_wp2_with fail
    go_quiet (fail)
    have OD := (Only.refl [] W0).drewN nq
    have H1 := hide (H1.out.only OD (by simp))
    have H2 := hide (H2.out.only0 OD)
    have H3 := hide (H3.out.only0 OD)
    have H4 := hide (H4.out.only0 OD)
    have HX := hide (HX.out.only OD (by simp))
    have OB := hide (((O0.out.trans0 OD).below).mono hB)
    have hs1 := (O0.out.trans0 OD).size
    generalize W0.drewN nq = W1 at OD H1 H2 H3 H4 HX OB hs1 ⊢
    clear OD O0 k6 k7 k8 k9 f8 f9 x0 x1 x2 
    have k9 := H1.out.cell 9
    have f9 := H1.out.frozen 9
    have x1 := HX.out.cell 1
    have x2 := HX.out.cell 2
    unfold rd10 at k9
    by_cases a0 : a = 0
    · have b0 : ((a : Int) == 0) = true := by simp; omega
      have HN := hide (show evR ⟨ps, ts, es, a⟩ ⟨⟨k, m⟩, n⟩ = none from if_pos (.inl a0))
      clear HAG
      go_wp2_with fail
      go_ret
      exact ⟨by rw [HN.out]; exact rfl, OB.out⟩
    · have b0 : ((a : Int) == 0) = false := by simp; omega
      have wr1 : wrap64 ((ln : Int) + (n : Int)) = (ln : Int) + (n : Int) := by have := HB.out; unfold wrap64; omega
      have wr2 : IntKind.i64.wrap ((ln : Int) + (n : Int)) = (ln : Int) + (n : Int) := IntWalk.i64_in _ (by have := HB.out; omega)
      by_cases ov : 8192 < ln + n
      · have d1 : decide ((8192 : Int) < (ln : Int) + (n : Int)) = true := decide_eq_true (by omega)
        have d1b : (8192 : Int) < (ln : Int) + (n : Int) := by omega
        have HN := hide (show evR ⟨ps, ts, es, a⟩ ⟨⟨k, m⟩, n⟩ = none from if_pos (.inr (.inr (by simp only; rw [HLN.out]; omega))))
        clear HAG
        go_wp2_with fail
        go_ret
        exact ⟨by rw [HN.out]; exact rfl, OB.out⟩
      · have d1 : decide ((8192 : Int) < (ln : Int) + (n : Int)) = false := decide_eq_false (by omega)
        have d1b : ¬ (8192 : Int) < (ln : Int) + (n : Int) := by omega
        have HN := hide (show evR ⟨ps, ts, es, a⟩ ⟨⟨k, m⟩, n⟩ = some ⟨ps, ts, es ++ List.replicate n ⟨k, m⟩, 3⟩ from by
          unfold evR
          rw [if_neg]
          · simp
          · rintro (h | h | h)
            · exact a0 h
            · rw [HAG.out] at h; cases h
            · simp only at h; rw [HLN.out] at h; omega)
        have OU := (Only.refl [R] W1).setCell (p := ⟨R, 9, none⟩) (.inl (by simp)) (.int .i64 3)
        have hEr : R ∉ blkOf EA := own_ne H4.out H1.out (by decide)
        have hQr : R ∉ blkOf TA := own_ne H3.out H1.out (by decide)
        have U1 := hide (show Blk (W1.setCell ⟨R, 9, none⟩ (.int .i64 3)) R 101 (rd10 v (.slice A ps.length c) (.slice TA ts.length tc) (.slice EA (ln + 0) ec) 3) by
          have := H1.out.set_ 9 (.int .i64 3)
          rw [HLN.out] at this
          exact this)
        have U2 := hide (H2.out.far OU (fun k hk => ⟨101, _, by simp at hk; subst hk; exact H1.out, by decide, by decide⟩))
        have U3 := hide (show Qs (W1.setCell ⟨R, 9, none⟩ (.int .i64 3)) B TA tc (ts.map bs) from own_only' H3.out OU (fun k hk hm => by simp at hm; subst hm; exact hQr hk))
        have U4 := hide (show Es (W1.setCell ⟨R, 9, none⟩ (.int .i64 3)) B EA ec (es ++ List.replicate 0 ⟨k, m⟩) from by
          rw [List.replicate_zero, List.append_nil]
          exact own_only' H4.out OU (fun k hk hm => by simp at hm; subst hm; exact hEr hk))
        have UX := hide (HX.out.far (p := ⟨R, 9, none⟩) (Ne.symm hRX) (.int .i64 3))
        have UB := hide (OB.out.setCell (p := ⟨R, 9, none⟩) hBR (.int .i64 3))
        have hn1 : 1 ≤ n := by have := HB.out; omega
        clear H1 H2 H3 H4 HX OB OU hEr hQr HAG
        go_wp2_with fail
        go_loopw [55] (fun vq wr => ∃ (q : Nat) (EA' : Option Addr) (ec' : Nat), q ≤ n ∧ vq = .int .i64 q ∧ Hid (Blk wr R 101 (rd10 v (.slice A ps.length c) (.slice TA ts.length tc) (.slice EA' (ln + q) ec') 3)) ∧ Hid (Ps wr B A c vs ps) ∧ Hid (Qs wr B TA tc (ts.map bs)) ∧ Hid (Es wr B EA' ec' (es ++ List.replicate q ⟨k, m⟩)) ∧ Hid (Blk wr X 26 #[.int .i64 k, .int .i64 m, .int .i64 n]) ∧ Hid (Below B w wr)) (fun vq _ => n - (intOf vq).toNat)
        case atStart => exact ⟨0, EA, ec, by omega, rfl, U1, U2, U3, U4, UX, UB⟩
        case round =>
          clear U1 U2 U3 U4 UX UB k9 f9 x1 x2
          obtain ⟨q, EA', ec', hq, rfl, V1, V2, V3, V4, VX, VB⟩ := hrel
          have hsw := VB.out.size
          by_cases hqn : q < n
          · have hlq : (es ++ List.replicate q (⟨k, m⟩ : Ev)).length = ln + q := by simp [HLN.out]
            obtain ⟨g', c', w3, hrun, hE3, o3⟩ := app_ev wr.drew B EA' ec' (es ++ List.replicate q ⟨k, m⟩) ⟨k, m⟩ (V4.out.only0 ((Only.refl [] wr).drew)) (by rw [hlq]; omega) (by show B ≤ wr.heap.size; omega)
            rw [hlq] at hrun
            have hrun : (AppH #[27, 27] 27 #[.slice EA' (ln + q) ec', .slice (some ⟨wr.heap.size, 0, none⟩) 1 1]).run Tryz.prog (wr.alloc (.cells #[.int .i64 k, .int .i64 m] 24)).drew = .ok (.slice (some ⟨g', 0, none⟩) (ln + q + 1) c') w3 := hrun
            have hEr : R ∉ blkOf EA' := own_ne V4.out V1.out (by decide)
            have hEx : X ∉ blkOf EA' := own_ne V4.out VX.out (by decide)
            have hET := own_apart V4.out V3.out (by decide)
            have o3' : Only (blkOf EA') wr w3 := ((Only.refl (blkOf EA') wr).drew).trans' o3
            have R3 := V1.out.only o3' hEr
            have X3 := VX.out.only o3' hEx
            have P3 := V2.out.far o3' (fun k hk => by obtain ⟨cs, hc⟩ := own_ty V4.out k hk; exact ⟨24, cs, hc, by decide, by decide⟩)
            have Q3 : Qs w3 B TA tc (ts.map bs) := own_only' V3.out o3' (fun k hk hm => hET k hm hk)
            have B3 : Below B w w3 := VB.out.trans ⟨o3'.os, o3'.tape, o3'.output, o3'.size, fun k hk => o3'.block k (by omega) (fun hm => by have := (own_ge V4.out k hm).1; omega)⟩
            have OU := (Only.refl [R] w3).setCell (p := ⟨R, 8, none⟩) (.inl (by simp)) (.slice (some ⟨g', 0, none⟩) (ln + q + 1) c')
            have k8 : wr.cell? ⟨R, 8, none⟩ = some (.slice EA' (ln + q) ec') := (V1.out.cell 8).trans rfl
            have y8 : w3.cell? ⟨R, 8, none⟩ = some (.slice EA' (ln + q) ec') := (R3.cell 8).trans rfl
            have k8b : (wr.alloc (.cells #[.int .i64 k, .int .i64 m] 24)).drew.cell? ⟨R, 8, none⟩ = some (.slice EA' (ln + q) ec') := ((V1.out.alloc (.cells #[.int .i64 k, .int .i64 m] 24)).drew.cell 8).trans rfl
            have f8 := R3.frozen 8
            have x0 := VX.out.cell 0
            have x1 := VX.out.cell 1
            have x2 := VX.out.cell 2
            have U1 := hide (show Blk (w3.setCell ⟨R, 8, none⟩ (.slice (some ⟨g', 0, none⟩) (ln + q + 1) c')) R 101 (rd10 v (.slice A ps.length c) (.slice TA ts.length tc) (.slice (some ⟨g', 0, none⟩) (ln + (q + 1)) c') 3) from R3.set_ 8 _)
            have U2 := hide (P3.far OU (fun k hk => ⟨101, _, by simp at hk; subst hk; exact R3, by decide, by decide⟩))
            have U3 := hide (show Qs (w3.setCell ⟨R, 8, none⟩ (.slice (some ⟨g', 0, none⟩) (ln + q + 1) c')) B TA tc (ts.map bs) from own_only' Q3 OU (fun k hk hm => by simp at hm; subst hm; exact own_ne Q3 R3 (by decide) hk))
            have U4 := hide (show Es (w3.setCell ⟨R, 8, none⟩ (.slice (some ⟨g', 0, none⟩) (ln + q + 1) c')) B (some ⟨g', 0, none⟩) c' (es ++ List.replicate (q + 1) ⟨k, m⟩) from by
              rw [List.replicate_succ', ← List.append_assoc]
              exact own_only' hE3 OU (fun k hk hm => by simp at hm; subst hm; exact own_ne hE3 R3 (by decide) hk))
            have UX := hide (X3.far (p := ⟨R, 8, none⟩) (Ne.symm hRX) (.slice (some ⟨g', 0, none⟩) (ln + q + 1) c'))
            have UB := hide (B3.setCell (p := ⟨R, 8, none⟩) hBR (.slice (some ⟨g', 0, none⟩) (ln + q + 1) c'))
            have j1 : (q : Int) < (n : Int) := by omega
            clear V1 V2 V3 V4 VX VB hE3 o3 o3' R3 X3 P3 Q3 B3 OU hEr hEx hET hlq
            go_wp2_with fail
            go_region
            go_wp2_with fail
            go_roundw
            case rel => exact ⟨q + 1, _, _, by omega, by go_num, U1, U2, U3, U4, UX, UB⟩
            case measure => simp [intOf]; omega
          · obtain rfl : q = n := by omega
            have x1 := VX.out.cell 1
            have x2 := VX.out.cell 2
            go_wp2_with fail
            go_ret
            refine ⟨?_, VB.out⟩
            rw [HN.out]
            refine ⟨rfl, hBR, A, c, vs, TA, tc, EA', ec', ?_, V2.out, V3.out, V4.out⟩
            have := V1.out
            simp only [List.length_append, List.length_replicate, HLN.out]
            exact this
  · have hly : ln = ys.length + 1 := by rw [← HLN.out, he]; simp
    obtain ⟨p, hp⟩ : ∃ p, ys.length = p := ⟨_, rfl⟩
    rw [hp] at hly
    obtain ⟨gE, rfl, y0, y1⟩ := H4.out.cells (k := p) (x := y) (by rw [he, List.concat_eq_append, ← hp, List.getElem?_append_right (Nat.le_refl _)]; simp)
    have hag : again es ⟨⟨k, m⟩, n⟩ = decide (k ≠ 3 ∧ y = ⟨k, m⟩) := by rw [he]; unfold again; simp
    have hp1 : (ln : Int) - 1 = (p : Int) := by omega
    have i0 : (0 : Int) < (ln : Int) := by omega
    have i0d : decide ((0 : Int) < (ln : Int)) = true := decide_eq_true i0
    have i0n : decide (0 < ln) = true := decide_eq_true (by omega)
    have i0m : 0 < ln := by omega
    have q1n : p < ln := by omega
    have q0 : (0 : Int) ≤ (p : Int) := by omega
    have q1 : (p : Int) < (ln : Int) := by omega
    obtain ⟨yk, ym⟩ := y
    simp only at y0 y1
    have EQ := fun V => eqEv2 yk ym k m V
    have HLY := hide hly
    clear he hp hly
    by_cases k3 : k = 3
    · have HAG := hide (show again es ⟨⟨k, m⟩, n⟩ = false by rw [hag]; simp [k3])
      have b3 : (k != 3) = false := by simpa using k3
      clear hag k3
      go_enter Tryz.func79, Tryz.ntmps79
      go_wp2_with fail
      go_quiet (fail)
      have OD := (Only.refl [] W0).drewN nq
      have H1 := hide (H1.out.only OD (by simp))
      have H2 := hide (H2.out.only0 OD)
      have H3 := hide (H3.out.only0 OD)
      have H4 := hide (H4.out.only0 OD)
      have HX := hide (HX.out.only OD (by simp))
      have OB := hide (((O0.out.trans0 OD).below).mono hB)
      have hs1 := (O0.out.trans0 OD).size
      generalize W0.drewN nq = W1 at OD H1 H2 H3 H4 HX OB hs1 ⊢
      clear OD O0 k6 k7 k8 k9 f8 f9 x0 x1 x2 y0 y1 EQ
      have k9 := H1.out.cell 9
      have f9 := H1.out.frozen 9
      have x1 := HX.out.cell 1
      have x2 := HX.out.cell 2
      unfold rd10 at k9
      by_cases a0 : a = 0
      · have b0 : ((a : Int) == 0) = true := by simp; omega
        have HN := hide (show evR ⟨ps, ts, es, a⟩ ⟨⟨k, m⟩, n⟩ = none from if_pos (.inl a0))
        clear HAG
        go_wp2_with fail
        go_ret
        exact ⟨by rw [HN.out]; exact rfl, OB.out⟩
      · have b0 : ((a : Int) == 0) = false := by simp; omega
        have wr1 : wrap64 ((ln : Int) + (n : Int)) = (ln : Int) + (n : Int) := by have := HB.out; unfold wrap64; omega
        have wr2 : IntKind.i64.wrap ((ln : Int) + (n : Int)) = (ln : Int) + (n : Int) := IntWalk.i64_in _ (by have := HB.out; omega)
        by_cases ov : 8192 < ln + n
        · have d1 : decide ((8192 : Int) < (ln : Int) + (n : Int)) = true := decide_eq_true (by omega)
          have d1b : (8192 : Int) < (ln : Int) + (n : Int) := by omega
          have HN := hide (show evR ⟨ps, ts, es, a⟩ ⟨⟨k, m⟩, n⟩ = none from if_pos (.inr (.inr (by simp only; rw [HLN.out]; omega))))
          clear HAG
          go_wp2_with fail
          go_ret
          exact ⟨by rw [HN.out]; exact rfl, OB.out⟩
        · have d1 : decide ((8192 : Int) < (ln : Int) + (n : Int)) = false := decide_eq_false (by omega)
          have d1b : ¬ (8192 : Int) < (ln : Int) + (n : Int) := by omega
          have HN := hide (show evR ⟨ps, ts, es, a⟩ ⟨⟨k, m⟩, n⟩ = some ⟨ps, ts, es ++ List.replicate n ⟨k, m⟩, 3⟩ from by
            unfold evR
            rw [if_neg]
            · simp
            · rintro (h | h | h)
              · exact a0 h
              · rw [HAG.out] at h; cases h
              · simp only at h; rw [HLN.out] at h; omega)
          have OU := (Only.refl [R] W1).setCell (p := ⟨R, 9, none⟩) (.inl (by simp)) (.int .i64 3)
          have hEr : R ∉ blkOf (some ⟨gE, 0, none⟩) := own_ne H4.out H1.out (by decide)
          have hQr : R ∉ blkOf TA := own_ne H3.out H1.out (by decide)
          have U1 := hide (show Blk (W1.setCell ⟨R, 9, none⟩ (.int .i64 3)) R 101 (rd10 v (.slice A ps.length c) (.slice TA ts.length tc) (.slice (some ⟨gE, 0, none⟩) (ln + 0) ec) 3) by
            have := H1.out.set_ 9 (.int .i64 3)
            rw [HLN.out] at this
            exact this)
          have U2 := hide (H2.out.far OU (fun k hk => ⟨101, _, by simp at hk; subst hk; exact H1.out, by decide, by decide⟩))
          have U3 := hide (show Qs (W1.setCell ⟨R, 9, none⟩ (.int .i64 3)) B TA tc (ts.map bs) from own_only' H3.out OU (fun k hk hm => by simp at hm; subst hm; exact hQr hk))
          have U4 := hide (show Es (W1.setCell ⟨R, 9, none⟩ (.int .i64 3)) B (some ⟨gE, 0, none⟩) ec (es ++ List.replicate 0 ⟨k, m⟩) from by
            rw [List.replicate_zero, List.append_nil]
            exact own_only' H4.out OU (fun k hk hm => by simp at hm; subst hm; exact hEr hk))
          have UX := hide (HX.out.far (p := ⟨R, 9, none⟩) (Ne.symm hRX) (.int .i64 3))
          have UB := hide (OB.out.setCell (p := ⟨R, 9, none⟩) hBR (.int .i64 3))
          have hn1 : 1 ≤ n := by have := HB.out; omega
          clear H1 H2 H3 H4 HX OB OU hEr hQr HAG
          go_wp2_with fail
          go_loopw [55] (fun vq wr => ∃ (q : Nat) (EA' : Option Addr) (ec' : Nat), q ≤ n ∧ vq = .int .i64 q ∧ Hid (Blk wr R 101 (rd10 v (.slice A ps.length c) (.slice TA ts.length tc) (.slice EA' (ln + q) ec') 3)) ∧ Hid (Ps wr B A c vs ps) ∧ Hid (Qs wr B TA tc (ts.map bs)) ∧ Hid (Es wr B EA' ec' (es ++ List.replicate q ⟨k, m⟩)) ∧ Hid (Blk wr X 26 #[.int .i64 k, .int .i64 m, .int .i64 n]) ∧ Hid (Below B w wr)) (fun vq _ => n - (intOf vq).toNat)
          case atStart => exact ⟨0, (some ⟨gE, 0, none⟩), ec, by omega, rfl, U1, U2, U3, U4, UX, UB⟩
          case round =>
            clear U1 U2 U3 U4 UX UB k9 f9 x1 x2
            obtain ⟨q, EA', ec', hq, rfl, V1, V2, V3, V4, VX, VB⟩ := hrel
            have hsw := VB.out.size
            by_cases hqn : q < n
            · have hlq : (es ++ List.replicate q (⟨k, m⟩ : Ev)).length = ln + q := by simp [HLN.out]
              obtain ⟨g', c', w3, hrun, hE3, o3⟩ := app_ev wr.drew B EA' ec' (es ++ List.replicate q ⟨k, m⟩) ⟨k, m⟩ (V4.out.only0 ((Only.refl [] wr).drew)) (by rw [hlq]; omega) (by show B ≤ wr.heap.size; omega)
              rw [hlq] at hrun
              have hrun : (AppH #[27, 27] 27 #[.slice EA' (ln + q) ec', .slice (some ⟨wr.heap.size, 0, none⟩) 1 1]).run Tryz.prog (wr.alloc (.cells #[.int .i64 k, .int .i64 m] 24)).drew = .ok (.slice (some ⟨g', 0, none⟩) (ln + q + 1) c') w3 := hrun
              have hEr : R ∉ blkOf EA' := own_ne V4.out V1.out (by decide)
              have hEx : X ∉ blkOf EA' := own_ne V4.out VX.out (by decide)
              have hET := own_apart V4.out V3.out (by decide)
              have o3' : Only (blkOf EA') wr w3 := ((Only.refl (blkOf EA') wr).drew).trans' o3
              have R3 := V1.out.only o3' hEr
              have X3 := VX.out.only o3' hEx
              have P3 := V2.out.far o3' (fun k hk => by obtain ⟨cs, hc⟩ := own_ty V4.out k hk; exact ⟨24, cs, hc, by decide, by decide⟩)
              have Q3 : Qs w3 B TA tc (ts.map bs) := own_only' V3.out o3' (fun k hk hm => hET k hm hk)
              have B3 : Below B w w3 := VB.out.trans ⟨o3'.os, o3'.tape, o3'.output, o3'.size, fun k hk => o3'.block k (by omega) (fun hm => by have := (own_ge V4.out k hm).1; omega)⟩
              have OU := (Only.refl [R] w3).setCell (p := ⟨R, 8, none⟩) (.inl (by simp)) (.slice (some ⟨g', 0, none⟩) (ln + q + 1) c')
              have k8 : wr.cell? ⟨R, 8, none⟩ = some (.slice EA' (ln + q) ec') := (V1.out.cell 8).trans rfl
              have y8 : w3.cell? ⟨R, 8, none⟩ = some (.slice EA' (ln + q) ec') := (R3.cell 8).trans rfl
              have k8b : (wr.alloc (.cells #[.int .i64 k, .int .i64 m] 24)).drew.cell? ⟨R, 8, none⟩ = some (.slice EA' (ln + q) ec') := ((V1.out.alloc (.cells #[.int .i64 k, .int .i64 m] 24)).drew.cell 8).trans rfl
              have f8 := R3.frozen 8
              have x0 := VX.out.cell 0
              have x1 := VX.out.cell 1
              have x2 := VX.out.cell 2
              have U1 := hide (show Blk (w3.setCell ⟨R, 8, none⟩ (.slice (some ⟨g', 0, none⟩) (ln + q + 1) c')) R 101 (rd10 v (.slice A ps.length c) (.slice TA ts.length tc) (.slice (some ⟨g', 0, none⟩) (ln + (q + 1)) c') 3) from R3.set_ 8 _)
              have U2 := hide (P3.far OU (fun k hk => ⟨101, _, by simp at hk; subst hk; exact R3, by decide, by decide⟩))
              have U3 := hide (show Qs (w3.setCell ⟨R, 8, none⟩ (.slice (some ⟨g', 0, none⟩) (ln + q + 1) c')) B TA tc (ts.map bs) from own_only' Q3 OU (fun k hk hm => by simp at hm; subst hm; exact own_ne Q3 R3 (by decide) hk))
              have U4 := hide (show Es (w3.setCell ⟨R, 8, none⟩ (.slice (some ⟨g', 0, none⟩) (ln + q + 1) c')) B (some ⟨g', 0, none⟩) c' (es ++ List.replicate (q + 1) ⟨k, m⟩) from by
                rw [List.replicate_succ', ← List.append_assoc]
                exact own_only' hE3 OU (fun k hk hm => by simp at hm; subst hm; exact own_ne hE3 R3 (by decide) hk))
              have UX := hide (X3.far (p := ⟨R, 8, none⟩) (Ne.symm hRX) (.slice (some ⟨g', 0, none⟩) (ln + q + 1) c'))
              have UB := hide (B3.setCell (p := ⟨R, 8, none⟩) hBR (.slice (some ⟨g', 0, none⟩) (ln + q + 1) c'))
              have j1 : (q : Int) < (n : Int) := by omega
              clear V1 V2 V3 V4 VX VB hE3 o3 o3' R3 X3 P3 Q3 B3 OU hEr hEx hET hlq
              go_wp2_with fail
              go_region
              go_wp2_with fail
              go_roundw
              case rel => exact ⟨q + 1, _, _, by omega, by go_num, U1, U2, U3, U4, UX, UB⟩
              case measure => simp [intOf]; omega
            · obtain rfl : q = n := by omega
              have x1 := VX.out.cell 1
              have x2 := VX.out.cell 2
              go_wp2_with fail
              go_ret
              refine ⟨?_, VB.out⟩
              rw [HN.out]
              refine ⟨rfl, hBR, A, c, vs, TA, tc, EA', ec', ?_, V2.out, V3.out, V4.out⟩
              have := V1.out
              simp only [List.length_append, List.length_replicate, HLN.out]
              exact this
    · have b3 : (k != 3) = true := by simpa using k3
      by_cases hye : yk = k ∧ ym = m
      · have HAG := hide (show again es ⟨⟨k, m⟩, n⟩ = true by rw [hag]; simp [k3, hye.1, hye.2])
        have t1 : (yk == k && ym == m) = true := by simpa using hye
        rw [t1] at EQ
        clear hag k3 hye t1
        go_enter Tryz.func79, Tryz.ntmps79
        go_wp2_with fail
        go_quiet (fail)
        have OD := (Only.refl [] W0).drewN nq
        have H1 := hide (H1.out.only OD (by simp))
        have H2 := hide (H2.out.only0 OD)
        have H3 := hide (H3.out.only0 OD)
        have H4 := hide (H4.out.only0 OD)
        have HX := hide (HX.out.only OD (by simp))
        have OB := hide (((O0.out.trans0 OD).below).mono hB)
        have hs1 := (O0.out.trans0 OD).size
        generalize W0.drewN nq = W1 at OD H1 H2 H3 H4 HX OB hs1 ⊢
        clear OD O0 k6 k7 k8 k9 f8 f9 x0 x1 x2 y0 y1 EQ
        have k9 := H1.out.cell 9
        have f9 := H1.out.frozen 9
        have x1 := HX.out.cell 1
        have x2 := HX.out.cell 2
        unfold rd10 at k9
        by_cases a0 : a = 0
        · have b0 : ((a : Int) == 0) = true := by simp; omega
          have HN := hide (show evR ⟨ps, ts, es, a⟩ ⟨⟨k, m⟩, n⟩ = none from if_pos (.inl a0))
          clear HAG
          go_wp2_with fail
          go_ret
          exact ⟨by rw [HN.out]; exact rfl, OB.out⟩
        · have b0 : ((a : Int) == 0) = false := by simp; omega
          have HN := hide (show evR ⟨ps, ts, es, a⟩ ⟨⟨k, m⟩, n⟩ = none from if_pos (.inr (.inl HAG.out)))
          clear HAG
          go_wp2_with fail
          go_ret
          exact ⟨by rw [HN.out]; exact rfl, OB.out⟩
      · have HAG := hide (show again es ⟨⟨k, m⟩, n⟩ = false by rw [hag]; simp only [decide_eq_false_iff_not]; rintro ⟨_, h⟩; injection h with h1 h2; exact hye ⟨h1, h2⟩)
        have t1 : (yk == k && ym == m) = false := by rw [Bool.eq_false_iff]; intro h; simp at h; exact hye h
        rw [t1] at EQ
        clear hag k3 hye t1
        go_enter Tryz.func79, Tryz.ntmps79
        go_wp2_with fail
        go_quiet (fail)
        have OD := (Only.refl [] W0).drewN nq
        have H1 := hide (H1.out.only OD (by simp))
        have H2 := hide (H2.out.only0 OD)
        have H3 := hide (H3.out.only0 OD)
        have H4 := hide (H4.out.only0 OD)
        have HX := hide (HX.out.only OD (by simp))
        have OB := hide (((O0.out.trans0 OD).below).mono hB)
        have hs1 := (O0.out.trans0 OD).size
        generalize W0.drewN nq = W1 at OD H1 H2 H3 H4 HX OB hs1 ⊢
        clear OD O0 k6 k7 k8 k9 f8 f9 x0 x1 x2 y0 y1 EQ
        have k9 := H1.out.cell 9
        have f9 := H1.out.frozen 9
        have x1 := HX.out.cell 1
        have x2 := HX.out.cell 2
        unfold rd10 at k9
        by_cases a0 : a = 0
        · have b0 : ((a : Int) == 0) = true := by simp; omega
          have HN := hide (show evR ⟨ps, ts, es, a⟩ ⟨⟨k, m⟩, n⟩ = none from if_pos (.inl a0))
          clear HAG
          go_wp2_with fail
          go_ret
          exact ⟨by rw [HN.out]; exact rfl, OB.out⟩
        · have b0 : ((a : Int) == 0) = false := by simp; omega
          have wr1 : wrap64 ((ln : Int) + (n : Int)) = (ln : Int) + (n : Int) := by have := HB.out; unfold wrap64; omega
          have wr2 : IntKind.i64.wrap ((ln : Int) + (n : Int)) = (ln : Int) + (n : Int) := IntWalk.i64_in _ (by have := HB.out; omega)
          by_cases ov : 8192 < ln + n
          · have d1 : decide ((8192 : Int) < (ln : Int) + (n : Int)) = true := decide_eq_true (by omega)
            have d1b : (8192 : Int) < (ln : Int) + (n : Int) := by omega
            have HN := hide (show evR ⟨ps, ts, es, a⟩ ⟨⟨k, m⟩, n⟩ = none from if_pos (.inr (.inr (by simp only; rw [HLN.out]; omega))))
            clear HAG
            go_wp2_with fail
            go_ret
            exact ⟨by rw [HN.out]; exact rfl, OB.out⟩
          · have d1 : decide ((8192 : Int) < (ln : Int) + (n : Int)) = false := decide_eq_false (by omega)
            have d1b : ¬ (8192 : Int) < (ln : Int) + (n : Int) := by omega
            have HN := hide (show evR ⟨ps, ts, es, a⟩ ⟨⟨k, m⟩, n⟩ = some ⟨ps, ts, es ++ List.replicate n ⟨k, m⟩, 3⟩ from by
              unfold evR
              rw [if_neg]
              · simp
              · rintro (h | h | h)
                · exact a0 h
                · rw [HAG.out] at h; cases h
                · simp only at h; rw [HLN.out] at h; omega)
            have OU := (Only.refl [R] W1).setCell (p := ⟨R, 9, none⟩) (.inl (by simp)) (.int .i64 3)
            have hEr : R ∉ blkOf (some ⟨gE, 0, none⟩) := own_ne H4.out H1.out (by decide)
            have hQr : R ∉ blkOf TA := own_ne H3.out H1.out (by decide)
            have U1 := hide (show Blk (W1.setCell ⟨R, 9, none⟩ (.int .i64 3)) R 101 (rd10 v (.slice A ps.length c) (.slice TA ts.length tc) (.slice (some ⟨gE, 0, none⟩) (ln + 0) ec) 3) by
              have := H1.out.set_ 9 (.int .i64 3)
              rw [HLN.out] at this
              exact this)
            have U2 := hide (H2.out.far OU (fun k hk => ⟨101, _, by simp at hk; subst hk; exact H1.out, by decide, by decide⟩))
            have U3 := hide (show Qs (W1.setCell ⟨R, 9, none⟩ (.int .i64 3)) B TA tc (ts.map bs) from own_only' H3.out OU (fun k hk hm => by simp at hm; subst hm; exact hQr hk))
            have U4 := hide (show Es (W1.setCell ⟨R, 9, none⟩ (.int .i64 3)) B (some ⟨gE, 0, none⟩) ec (es ++ List.replicate 0 ⟨k, m⟩) from by
              rw [List.replicate_zero, List.append_nil]
              exact own_only' H4.out OU (fun k hk hm => by simp at hm; subst hm; exact hEr hk))
            have UX := hide (HX.out.far (p := ⟨R, 9, none⟩) (Ne.symm hRX) (.int .i64 3))
            have UB := hide (OB.out.setCell (p := ⟨R, 9, none⟩) hBR (.int .i64 3))
            have hn1 : 1 ≤ n := by have := HB.out; omega
            clear H1 H2 H3 H4 HX OB OU hEr hQr HAG
            go_wp2_with fail
            go_loopw [55] (fun vq wr => ∃ (q : Nat) (EA' : Option Addr) (ec' : Nat), q ≤ n ∧ vq = .int .i64 q ∧ Hid (Blk wr R 101 (rd10 v (.slice A ps.length c) (.slice TA ts.length tc) (.slice EA' (ln + q) ec') 3)) ∧ Hid (Ps wr B A c vs ps) ∧ Hid (Qs wr B TA tc (ts.map bs)) ∧ Hid (Es wr B EA' ec' (es ++ List.replicate q ⟨k, m⟩)) ∧ Hid (Blk wr X 26 #[.int .i64 k, .int .i64 m, .int .i64 n]) ∧ Hid (Below B w wr)) (fun vq _ => n - (intOf vq).toNat)
            case atStart => exact ⟨0, (some ⟨gE, 0, none⟩), ec, by omega, rfl, U1, U2, U3, U4, UX, UB⟩
            case round =>
              clear U1 U2 U3 U4 UX UB k9 f9 x1 x2
              obtain ⟨q, EA', ec', hq, rfl, V1, V2, V3, V4, VX, VB⟩ := hrel
              have hsw := VB.out.size
              by_cases hqn : q < n
              · have hlq : (es ++ List.replicate q (⟨k, m⟩ : Ev)).length = ln + q := by simp [HLN.out]
                obtain ⟨g', c', w3, hrun, hE3, o3⟩ := app_ev wr.drew B EA' ec' (es ++ List.replicate q ⟨k, m⟩) ⟨k, m⟩ (V4.out.only0 ((Only.refl [] wr).drew)) (by rw [hlq]; omega) (by show B ≤ wr.heap.size; omega)
                rw [hlq] at hrun
                have hrun : (AppH #[27, 27] 27 #[.slice EA' (ln + q) ec', .slice (some ⟨wr.heap.size, 0, none⟩) 1 1]).run Tryz.prog (wr.alloc (.cells #[.int .i64 k, .int .i64 m] 24)).drew = .ok (.slice (some ⟨g', 0, none⟩) (ln + q + 1) c') w3 := hrun
                have hEr : R ∉ blkOf EA' := own_ne V4.out V1.out (by decide)
                have hEx : X ∉ blkOf EA' := own_ne V4.out VX.out (by decide)
                have hET := own_apart V4.out V3.out (by decide)
                have o3' : Only (blkOf EA') wr w3 := ((Only.refl (blkOf EA') wr).drew).trans' o3
                have R3 := V1.out.only o3' hEr
                have X3 := VX.out.only o3' hEx
                have P3 := V2.out.far o3' (fun k hk => by obtain ⟨cs, hc⟩ := own_ty V4.out k hk; exact ⟨24, cs, hc, by decide, by decide⟩)
                have Q3 : Qs w3 B TA tc (ts.map bs) := own_only' V3.out o3' (fun k hk hm => hET k hm hk)
                have B3 : Below B w w3 := VB.out.trans ⟨o3'.os, o3'.tape, o3'.output, o3'.size, fun k hk => o3'.block k (by omega) (fun hm => by have := (own_ge V4.out k hm).1; omega)⟩
                have OU := (Only.refl [R] w3).setCell (p := ⟨R, 8, none⟩) (.inl (by simp)) (.slice (some ⟨g', 0, none⟩) (ln + q + 1) c')
                have k8 : wr.cell? ⟨R, 8, none⟩ = some (.slice EA' (ln + q) ec') := (V1.out.cell 8).trans rfl
                have y8 : w3.cell? ⟨R, 8, none⟩ = some (.slice EA' (ln + q) ec') := (R3.cell 8).trans rfl
                have k8b : (wr.alloc (.cells #[.int .i64 k, .int .i64 m] 24)).drew.cell? ⟨R, 8, none⟩ = some (.slice EA' (ln + q) ec') := ((V1.out.alloc (.cells #[.int .i64 k, .int .i64 m] 24)).drew.cell 8).trans rfl
                have f8 := R3.frozen 8
                have x0 := VX.out.cell 0
                have x1 := VX.out.cell 1
                have x2 := VX.out.cell 2
                have U1 := hide (show Blk (w3.setCell ⟨R, 8, none⟩ (.slice (some ⟨g', 0, none⟩) (ln + q + 1) c')) R 101 (rd10 v (.slice A ps.length c) (.slice TA ts.length tc) (.slice (some ⟨g', 0, none⟩) (ln + (q + 1)) c') 3) from R3.set_ 8 _)
                have U2 := hide (P3.far OU (fun k hk => ⟨101, _, by simp at hk; subst hk; exact R3, by decide, by decide⟩))
                have U3 := hide (show Qs (w3.setCell ⟨R, 8, none⟩ (.slice (some ⟨g', 0, none⟩) (ln + q + 1) c')) B TA tc (ts.map bs) from own_only' Q3 OU (fun k hk hm => by simp at hm; subst hm; exact own_ne Q3 R3 (by decide) hk))
                have U4 := hide (show Es (w3.setCell ⟨R, 8, none⟩ (.slice (some ⟨g', 0, none⟩) (ln + q + 1) c')) B (some ⟨g', 0, none⟩) c' (es ++ List.replicate (q + 1) ⟨k, m⟩) from by
                  rw [List.replicate_succ', ← List.append_assoc]
                  exact own_only' hE3 OU (fun k hk hm => by simp at hm; subst hm; exact own_ne hE3 R3 (by decide) hk))
                have UX := hide (X3.far (p := ⟨R, 8, none⟩) (Ne.symm hRX) (.slice (some ⟨g', 0, none⟩) (ln + q + 1) c'))
                have UB := hide (B3.setCell (p := ⟨R, 8, none⟩) hBR (.slice (some ⟨g', 0, none⟩) (ln + q + 1) c'))
                have j1 : (q : Int) < (n : Int) := by omega
                clear V1 V2 V3 V4 VX VB hE3 o3 o3' R3 X3 P3 Q3 B3 OU hEr hEx hET hlq
                go_wp2_with fail
                go_region
                go_wp2_with fail
                go_roundw
                case rel => exact ⟨q + 1, _, _, by omega, by go_num, U1, U2, U3, U4, UX, UB⟩
                case measure => simp [intOf]; omega
              · obtain rfl : q = n := by omega
                have x1 := VX.out.cell 1
                have x2 := VX.out.cell 2
                go_wp2_with fail
                go_ret
                refine ⟨?_, VB.out⟩
                rw [HN.out]
                refine ⟨rfl, hBR, A, c, vs, TA, tc, EA', ec', ?_, V2.out, V3.out, V4.out⟩
                have := V1.out
                simp only [List.length_append, List.length_replicate, HLN.out]
                exact this
end Go.Proofs.YteblhklclcjonaaGreatDoor
