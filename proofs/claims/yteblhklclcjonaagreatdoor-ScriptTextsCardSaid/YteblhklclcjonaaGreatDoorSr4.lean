/- Script: the walk of a line. Condition: Env, the reader lies. -/
import Derived.Test.YteblhklclcjonaaGreatDoorSr3
import Derived.Test.YteblhklclcjonaaGreatDoorSr1
import Derived.Test.YteblhklclcjonaaGreatDoorSe4
import Derived.Test.YteblhklclcjonaaGreatDoorSw3
namespace Go.Proofs.YteblhklclcjonaaGreatDoor
open Go.RowKit
set_option linter.unusedVariables false
set_option linter.all false
set_option maxRecDepth 20000
attribute [local go_sem ↓] app_hide

/-- What must hold of a reader, that a line can be read. -/
structure RdOk (r : Rd) : Prop where
  ne : r.at' = 1 → r.ps ≠ []
  pl : (r.ps.getLastD []).length ≤ 256
  pn : r.ps.length ≤ 32
  tn : r.ts.length ≤ 32
  en : r.es.length ≤ 8192
set_option maxHeartbeats 8000000 in
theorem rdline_any (B R : Nat) (v : Nat → Int) (r : Rd) (s : List UInt8) (len : Int) (hs : s.length ≤ 2000000) (ok : RdOk r) (w : World) (he : Env w) (hw4 : 4 ≤ w.heap.size) (h : RdAt w B R v r) (hB : B ≤ w.heap.size) :
    Calls Tryz.prog 54 #[.pointer (some ⟨R, 0, none⟩), .string (bs s), .int .i64 len] w fun e w' => EvAns w' B R v e (lineR r s len) ∧ Below B w w' := by
  obtain ⟨o1, o2, o3, o4, o5⟩ := ok
  have U := hide (unline_any s hs w he hw4)
  have HE := hide he
  have HR := hide h
  clear h he
  cases hu : unlF s with
  | some x =>
    have hm := (unl_some hu).1
    have hb := mayS_num hm
    have HN := hide (show lineR r s len = evR r x by unfold lineR; rw [hu])
    obtain ⟨⟨k, m⟩, nI⟩ := x
    simp only at hb
    obtain ⟨n, rfl⟩ : ∃ n : Nat, nI = n := ⟨nI.toNat, by omega⟩
    have U := U.out
    rw [hu] at U
    have U := hide (show Calls Tryz.prog 9 #[.string (bs s)] w fun e w' => e = .returned (.tuple #[.agg #[.int .i64 k, .int .i64 m, .int .i64 n], .int .i64 0]) ∧ Only [] w w' from U)
    have EV := hide (fun W (o : Only [] w W) => event_any B R v r k m n hm o5 W (HR.out.only0 o) (by have := o.size; omega))
    clear hu hm hb
    cases hev : evR r ⟨⟨k, m⟩, n⟩ with
    | none =>
      rw [hev] at HN
      simp only [hev] at EV
      clear hev
      go_enter Tryz.func54, Tryz.ntmps54
      go_wp2_with (first
        | (go_at_call 9; (with_reducible refine U.out.mono ?_); rintro e w1 ⟨rfl, o1⟩; have O1 := hide (o1.alloc (.cells #[.int .i64 k, .int .i64 m, .int .i64 n] 26)); clear o1)
        | (go_at_call 79; (with_reducible refine (EV.out _ O1.out).mono ?_); rintro e w2 ⟨h1, h2⟩; have h1 := (show e = .returned (.bool false) from h1); subst h1; have HB2 := hide h2; clear h2))
      go_ret
      exact ⟨by rw [HN.out]; exact rfl, ((O1.out.below).mono hB).trans HB2.out⟩
    | some r' =>
      rw [hev] at HN
      simp only [hev] at EV
      clear hev
      go_enter Tryz.func54, Tryz.ntmps54
      go_wp2_with (first
        | (go_at_call 9; (with_reducible refine U.out.mono ?_); rintro e w1 ⟨rfl, o1⟩; have O1 := hide (o1.alloc (.cells #[.int .i64 k, .int .i64 m, .int .i64 n] 26)); clear o1)
        | (go_at_call 79; (with_reducible refine (EV.out _ O1.out).mono ?_); rintro e w2 ⟨h1, h2⟩; have h1 := (show e = .returned (.bool true) ∧ RdAt w2 B R v r' from h1); obtain ⟨rfl, h3⟩ := h1; have HB2 := hide h2; have HR2 := hide h3; clear h2 h3))
      go_ret
      exact ⟨by rw [HN.out]; exact ⟨rfl, HR2.out⟩, ((O1.out.below).mono hB).trans HB2.out⟩
  | none =>
    have U := U.out
    rw [hu] at U
    have U := hide (show Calls Tryz.prog 9 #[.string (bs s)] w fun e w' => e = .returned (.tuple #[.agg #[.int .i64 0, .int .i64 0, .int .i64 0], .int .i64 4]) ∧ Only [] w w' from U)
    have PW := hide (fun W (o : Only [] w W) => parse_walk s hs W (HE.out.only o) (by have := o.size; omega))
    cases hp : parP s with
    | some i =>
      have HN := hide (show lineR r s len = inR r i len by unfold lineR; rw [hu, hp])
      have PW2 := PW.out
      rw [hp] at PW2
      unfold parV at PW2
      have IN := hide (fun W (o : Only [] w W) => inst_any B R v r i len o1 o2 o3 W (HR.out.only0 o) (by have := o.size; omega))
      unfold insV at PW2 IN
      have PW := hide PW2
      clear PW2 hu hp
      cases hin : inR r i len with
      | none =>
        rw [hin] at HN
        simp only [hin] at IN
        clear hin
        go_enter Tryz.func54, Tryz.ntmps54
        go_wp2_with (first
          | (go_at_call 9; (with_reducible refine U.out.mono ?_); rintro e w1 ⟨rfl, o1⟩; have O1 := hide (o1.alloc (.cells #[.int .i64 0, .int .i64 0, .int .i64 0] 26)); clear o1)
          | (go_at_call 78; (with_reducible refine (PW.out _ O1.out).mono ?_); rintro e w2 ⟨rfl, o2⟩; have O2 := hide ((O1.out.trans0 o2).alloc (.cells #[.int .i64 i.op, .int .i64 i.d, .int .i64 i.a, .int .i64 i.b, .int .i64 i.imm] 99)); clear o2)
          | (go_at_call 80; (with_reducible refine (IN.out _ O2.out).mono ?_); rintro e w3 ⟨h1, h2⟩; have h1 := (show e = .returned (.bool false) from h1); subst h1; have HB2 := hide h2; clear h2))
        go_ret
        exact ⟨by rw [HN.out]; exact rfl, ((O2.out.below).mono hB).trans HB2.out⟩
      | some r' =>
        rw [hin] at HN
        simp only [hin] at IN
        clear hin
        go_enter Tryz.func54, Tryz.ntmps54
        go_wp2_with (first
          | (go_at_call 9; (with_reducible refine U.out.mono ?_); rintro e w1 ⟨rfl, o1⟩; have O1 := hide (o1.alloc (.cells #[.int .i64 0, .int .i64 0, .int .i64 0] 26)); clear o1)
          | (go_at_call 78; (with_reducible refine (PW.out _ O1.out).mono ?_); rintro e w2 ⟨rfl, o2⟩; have O2 := hide ((O1.out.trans0 o2).alloc (.cells #[.int .i64 i.op, .int .i64 i.d, .int .i64 i.a, .int .i64 i.b, .int .i64 i.imm] 99)); clear o2)
          | (go_at_call 80; (with_reducible refine (IN.out _ O2.out).mono ?_); rintro e w3 ⟨h1, h2⟩; have h1 := (show e = .returned (.bool true) ∧ RdAt w3 B R v r' from h1); obtain ⟨rfl, h3⟩ := h1; have HB2 := hide h2; have HR2 := hide h3; clear h2 h3))
        go_ret
        exact ⟨by rw [HN.out]; exact ⟨rfl, HR2.out⟩, ((O2.out.below).mono hB).trans HB2.out⟩
    | none =>
      have PW2 := PW.out
      rw [hp] at PW2
      unfold parV z5 at PW2
      have PW := hide PW2
      clear PW2
      have CT2 : ∀ W, Only [] w W → _ := fun W (o : Only [] w W) => cut_any (bs s) 32 (by rw [bs_size]; omega) W (HE.out.only o)
      rw [bs_list] at CT2
      have hc2 : (cutAt 32 s).2.1.length ≤ s.length := by have := cut_len 32 s; omega
      obtain ⟨l1, hl1⟩ : ∃ x, (cutAt 32 s).1 = x := ⟨_, rfl⟩
      obtain ⟨l2, hl2⟩ : ∃ x, (cutAt 32 s).2.1 = x := ⟨_, rfl⟩
      obtain ⟨l3, hl3⟩ : ∃ x, (cutAt 32 s).2.2 = x := ⟨_, rfl⟩
      rw [hl1, hl2, hl3] at CT2
      rw [hl2] at hc2
      have CT := hide (fun W (o : Only [] w W) => (show Calls Tryz.prog 32 #[.string (bs s), .string ⟨#[32]⟩] W fun e w' => e = .returned (.tuple #[.string (bs l1), .string (bs l2), .bool l3]) ∧ Only [] W w' from CT2 W o))
      clear CT2
      obtain ⟨hBR, A, c, vs, TA, tc, EA, ec, h1, h2, h3, h4⟩ := HR.out
      obtain ⟨ps, ts, es, a⟩ := r
      simp only at h1 h2 h3 h4 o1 o2 o3 o4 o5
      have hLR : lineR ⟨ps, ts, es, a⟩ s len = if s = progW then prR ⟨ps, ts, es, a⟩ else if l1 = textW ∧ l3 = true then txR ⟨ps, ts, es, a⟩ l2 else none := by
        unfold lineR
        rw [hu, hp]
        simp only
        rw [hl1, hl2, hl3]
      obtain ⟨L, hL⟩ : ∃ L, ps.length = L := ⟨_, rfl⟩
      obtain ⟨T, hT⟩ : ∃ T, ts.length = T := ⟨_, rfl⟩
      have H1 := hide h1
      have H2 := hide h2
      have H3 := hide h3
      have H4 := hide h4
      have HL := hide hL
      have HT := hide hT
      rw [hL] at o3
      rw [hT] at o4
      have ep0 := bs_eq s progW
      have et0 := bs_eq l1 textW
      have ep1 : ((bs s).toList == progW) = (s == progW) := by rw [ByteArray.toList_eq, bs_list]
      have et1 : ((bs l1).toList == textW) = (l1 == textW) := by rw [ByteArray.toList_eq, bs_list]
      clear h1 h2 h3 h4 hL hT hl1 hl2 hl3 hu hp HR o1 o2
      by_cases sp : s = progW
      · have ep : ((bs s).toList == (ByteArray.mk #[112, 114, 111, 103, 114, 97, 109]).toList) = true := ep0.trans (by simpa using sp)
        have ep2 : ((bs s).toList == [112, 114, 111, 103, 114, 97, 109]) = true := ep1.trans (by simpa using sp)
        rw [if_pos sp] at hLR
        clear ep0 et0 ep1 et1 sp
        by_cases a1 : 1 < a
        · have d_a : decide ((1 : Int) < (a : Int)) = true := decide_eq_true (by omega)
          have d_b : decide (1 < a) = true := decide_eq_true (by omega)
          have d_c : ((1 : Int) < (a : Int)) := by omega
          have d_d : (1 < a) := by omega
          have HN := hide (hLR.trans (show prR ⟨ps, ts, es, a⟩ = none from if_pos (.inl a1)))
          clear hLR a1
          go_enter Tryz.func54, Tryz.ntmps54
          go_wp2_with (first
            | (go_at_call 9; (with_reducible refine U.out.mono ?_); rintro e w1 ⟨rfl, o1⟩; have O1 := hide (o1.alloc (.cells #[.int .i64 0, .int .i64 0, .int .i64 0] 26)); clear o1)
            | (go_at_call 78; (with_reducible refine (PW.out _ O1.out).mono ?_); rintro e w2 ⟨rfl, o2⟩; have O2 := hide ((O1.out.trans0 o2).alloc (.cells #[.int .i64 0, .int .i64 0, .int .i64 0, .int .i64 0, .int .i64 0] 99)); clear o2)
            | (go_at_call 32; (with_reducible refine (CT.out _ O2.out).mono ?_); rintro e w3 ⟨rfl, o3w⟩; have O3 := hide (O2.out.trans0 o3w); clear o3w; have k9 := ((H1.out.only O3.out (by simp)).cell 9); have k6 := ((H1.out.only O3.out (by simp)).cell 6); unfold rd10 at k9; unfold rd10 at k6; (try rw [HL.out] at k6); (try rw [HT.out] at k6)))
          go_ret
          exact ⟨by rw [HN.out]; exact rfl, (O3.out.below).mono hB⟩
        · have d_a : decide ((1 : Int) < (a : Int)) = false := decide_eq_false (by omega)
          have d_b : decide (1 < a) = false := decide_eq_false (by omega)
          have d_c : ¬ ((1 : Int) < (a : Int)) := by omega
          have d_d : ¬ (1 < a) := by omega
          by_cases l1 : 32 ≤ L
          · have t_a : decide ((32 : Int) ≤ (L : Int)) = true := decide_eq_true (by omega)
            have t_b : decide (32 ≤ L) = true := decide_eq_true (by omega)
            have t_c : ((32 : Int) ≤ (L : Int)) := by omega
            have t_d : (32 ≤ L) := by omega
            have HN := hide (hLR.trans (show prR ⟨ps, ts, es, a⟩ = none from if_pos (.inr (by simp only; rw [HL.out]; exact l1))))
            clear hLR a1 l1
            go_enter Tryz.func54, Tryz.ntmps54
            go_wp2_with (first
              | (go_at_call 9; (with_reducible refine U.out.mono ?_); rintro e w1 ⟨rfl, o1⟩; have O1 := hide (o1.alloc (.cells #[.int .i64 0, .int .i64 0, .int .i64 0] 26)); clear o1)
              | (go_at_call 78; (with_reducible refine (PW.out _ O1.out).mono ?_); rintro e w2 ⟨rfl, o2⟩; have O2 := hide ((O1.out.trans0 o2).alloc (.cells #[.int .i64 0, .int .i64 0, .int .i64 0, .int .i64 0, .int .i64 0] 99)); clear o2)
              | (go_at_call 32; (with_reducible refine (CT.out _ O2.out).mono ?_); rintro e w3 ⟨rfl, o3w⟩; have O3 := hide (O2.out.trans0 o3w); clear o3w; have k9 := ((H1.out.only O3.out (by simp)).cell 9); have k6 := ((H1.out.only O3.out (by simp)).cell 6); unfold rd10 at k9; unfold rd10 at k6; (try rw [HL.out] at k6); (try rw [HT.out] at k6)))
            go_ret
            exact ⟨by rw [HN.out]; exact rfl, (O3.out.below).mono hB⟩
          · have t_a : decide ((32 : Int) ≤ (L : Int)) = false := decide_eq_false (by omega)
            have t_b : decide (32 ≤ L) = false := decide_eq_false (by omega)
            have t_c : ¬ ((32 : Int) ≤ (L : Int)) := by omega
            have t_d : ¬ (32 ≤ L) := by omega
            have HN := hide (hLR.trans (show prR ⟨ps, ts, es, a⟩ = some ⟨ps ++ [[]], ts, es, 1⟩ from if_neg (by rintro (h | h); exact a1 h; simp only at h; rw [HL.out] at h; exact l1 h)))
            clear hLR a1 l1
            go_enter Tryz.func54, Tryz.ntmps54
            go_wp2_with (first
              | (go_at_call 9; (with_reducible refine U.out.mono ?_); rintro e w1 ⟨rfl, o1⟩; have O1 := hide (o1.alloc (.cells #[.int .i64 0, .int .i64 0, .int .i64 0] 26)); clear o1)
              | (go_at_call 78; (with_reducible refine (PW.out _ O1.out).mono ?_); rintro e w2 ⟨rfl, o2⟩; have O2 := hide ((O1.out.trans0 o2).alloc (.cells #[.int .i64 0, .int .i64 0, .int .i64 0, .int .i64 0, .int .i64 0] 99)); clear o2)
              | (go_at_call 32; (with_reducible refine (CT.out _ O2.out).mono ?_); rintro e w3 ⟨rfl, o3w⟩; have O3 := hide (O2.out.trans0 o3w); clear o3w; have k9 := ((H1.out.only O3.out (by simp)).cell 9); have k6 := ((H1.out.only O3.out (by simp)).cell 6); unfold rd10 at k9; unfold rd10 at k6; (try rw [HL.out] at k6); (try rw [HT.out] at k6); have X6 := app_nilp w3 B A c vs ps (H2.out.only0 O3.out) (by rw [HL.out]; omega) (by have := O3.out.size; omega); rw [HL.out] at X6; obtain ⟨g', c', w4, hrun, hP4, o4w⟩ := X6; have hP := hide hP4; have o4h := hide o4w; have R4 := (H1.out.only O3.out (by simp)).only o4w (own_ne (H2.out.only0 O3.out).row (H1.out.only O3.out (by simp)) (by decide)); (rw [HL.out, HT.out] at R4); have R4h := hide R4; have y9 := R4.cell 9; have y6 := R4.cell 6; have f9 := R4.frozen 9; have f6 := R4.frozen 6; have y6b := (R4.set_ 9 (.int .i64 1)).cell 6; have f6b := (R4.set_ 9 (.int .i64 1)).frozen 6; unfold rd10 at y9 y6 y6b; have y6b := (show (w4.setCell ⟨R, 9, none⟩ (.int .i64 1)).cell? ⟨R, 6, none⟩ = some (.slice A L c) from y6b); clear hP4 o4w R4))
            go_ret
            have OU := hide (((Only.refl [R] w4).setCell (p := ⟨R, 9, none⟩) (.inl (by simp)) (.int .i64 1)).setCell (p := ⟨R, 6, none⟩) (.inl (by simp)) (.slice (some ⟨g', 0, none⟩) (L + 1) c'))
            have SU := hide (fun k (hk : k ∈ [R]) => (⟨101, _, by simp at hk; subst hk; exact R4h.out, by decide, by decide⟩ : ∃ t cs, Blk w4 k t cs ∧ t ≠ 67 ∧ t ≠ 99))
            refine ⟨?_, ?_⟩
            · rw [HN.out]
              refine ⟨rfl, hBR, some ⟨g', 0, none⟩, c', vs ++ [(none, 0)], TA, tc, EA, ec, ?_, ?_, ?_, ?_⟩
              · have := (R4h.out.set_ 9 (.int .i64 1)).set_ 6 (.slice (some ⟨g', 0, none⟩) (L + 1) c')
                simp only [List.length_append, List.length_cons, List.length_nil, Nat.zero_add, HL.out, HT.out]
                exact this
              · exact hP.out.far OU.out SU.out
              · exact own_only' (own_only' (H3.out.only0 O3.out) o4h.out (fun k hk hm => own_apart (H2.out.only0 O3.out).row (H3.out.only0 O3.out) (by decide) k hm hk)) OU.out (fun k hk hm => by simp at hm; subst hm; exact own_ne (H3.out.only0 O3.out) (H1.out.only O3.out (by simp)) (by decide) hk)
              · exact own_only' (own_only' (H4.out.only0 O3.out) o4h.out (fun k hk hm => own_apart (H2.out.only0 O3.out).row (H4.out.only0 O3.out) (by decide) k hm hk)) OU.out (fun k hk hm => by simp at hm; subst hm; exact own_ne (H4.out.only0 O3.out) (H1.out.only O3.out (by simp)) (by decide) hk)
            · have hs := O3.out.size
              have B3 : Below B w w4 := ((O3.out.below).mono hB).trans ⟨o4h.out.os, o4h.out.tape, o4h.out.output, o4h.out.size, fun k hk => o4h.out.block k (by omega) (fun hm => by have := (own_ge (H2.out.row) k hm).1; omega)⟩
              exact (B3.setCell (p := ⟨R, 9, none⟩) hBR (.int .i64 1)).setCell (p := ⟨R, 6, none⟩) hBR (.slice (some ⟨g', 0, none⟩) (L + 1) c')
      · have ep : ((bs s).toList == (ByteArray.mk #[112, 114, 111, 103, 114, 97, 109]).toList) = false := ep0.trans (by simpa using sp)
        have ep2 : ((bs s).toList == [112, 114, 111, 103, 114, 97, 109]) = false := ep1.trans (by simpa using sp)
        rw [if_neg sp] at hLR
        clear ep0 ep1 sp
        by_cases tx : l1 = textW ∧ l3 = true
        · obtain ⟨tx1, rfl⟩ := tx
          have et : ((bs l1).toList == (ByteArray.mk #[116, 101, 120, 116]).toList) = true := et0.trans (by simpa using tx1)
          have et2 : ((bs l1).toList == [116, 101, 120, 116]) = true := et1.trans (by simpa using tx1)
          rw [if_pos ⟨tx1, rfl⟩] at hLR
          clear et0 et1 tx1
          have UW := hide (fun W (o : Only [] w W) => unword_any l2 (by omega) W (HE.out.only o))
          have hun : unwF l2 = if wordB (unwX l2) = l2 then some (unwX l2) else none := rfl
          obtain ⟨wd, hwd⟩ : ∃ wd, unwX l2 = wd := ⟨_, rfl⟩
          obtain ⟨wb, hwb⟩ : ∃ wb, (wordB wd == l2) = wb := ⟨_, rfl⟩
          simp only [hwd, hwb] at UW
          rw [hwd] at hun
          obtain ⟨D, hD⟩ : ∃ D, wd.length = D := ⟨_, rfl⟩
          have zD : (bs wd).size = D := by rw [bs_size]; exact hD
          have HD := hide hD
          clear hwd hD
          cases wb
          · have hN1 : unwF l2 = none := by rw [hun]; exact if_neg (by simpa using hwb)
            have HN := hide (hLR.trans (show txR ⟨ps, ts, es, a⟩ l2 = none by unfold txR; rw [hN1]))
            clear hLR hN1 hun hwb
            go_enter Tryz.func54, Tryz.ntmps54
            go_wp2_with (first
              | (go_at_call 9; (with_reducible refine U.out.mono ?_); rintro e w1 ⟨rfl, o1⟩; have O1 := hide (o1.alloc (.cells #[.int .i64 0, .int .i64 0, .int .i64 0] 26)); clear o1)
              | (go_at_call 78; (with_reducible refine (PW.out _ O1.out).mono ?_); rintro e w2 ⟨rfl, o2⟩; have O2 := hide ((O1.out.trans0 o2).alloc (.cells #[.int .i64 0, .int .i64 0, .int .i64 0, .int .i64 0, .int .i64 0] 99)); clear o2)
              | (go_at_call 32; (with_reducible refine (CT.out _ O2.out).mono ?_); rintro e w3 ⟨rfl, o3w⟩; have O3 := hide (O2.out.trans0 o3w); clear o3w)
              | (go_at_call 81; (with_reducible refine (UW.out _ O3.out).mono ?_); rintro e w5 ⟨rfl, o5w⟩; have O5 := hide (O3.out.trans0 o5w); clear o5w; have k9 := ((H1.out.only O5.out (by simp)).cell 9); have k7 := ((H1.out.only O5.out (by simp)).cell 7); unfold rd10 at k9; unfold rd10 at k7; (try rw [HL.out] at k7); (try rw [HT.out] at k7)))
            go_ret
            exact ⟨by rw [HN.out]; exact rfl, (O5.out.below).mono hB⟩
          · have hN1 : unwF l2 = some wd := by rw [hun]; exact if_pos (by simpa using hwb)
            have hTX : txR ⟨ps, ts, es, a⟩ l2 = if a ≠ 1 ∧ a ≠ 2 ∨ 64 < D ∨ 32 ≤ T then none else some ⟨ps, ts ++ [wd], es, 2⟩ := by
              unfold txR
              rw [hN1]
              simp only
              rw [HD.out, HT.out]
            rw [hTX] at hLR
            clear hTX hN1 hun hwb
            by_cases a1 : a = 1
            · have b1 : ((a : Int) != 1) = false := by simp; omega
              have hA : ¬ (a ≠ 1 ∧ a ≠ 2) := by omega
              clear a1
              by_cases d64 : 64 < D
              · have d_a : decide ((64 : Int) < (D : Int)) = true := decide_eq_true (by omega)
                have d_b : decide (64 < D) = true := decide_eq_true (by omega)
                have d_c : ((64 : Int) < (D : Int)) := by omega
                have d_d : (64 < D) := by omega
                rw [if_pos (.inr (.inl d64))] at hLR
                have HN := hide hLR
                clear hLR d64
                go_enter Tryz.func54, Tryz.ntmps54
                go_wp2_with (first
                  | (go_at_call 9; (with_reducible refine U.out.mono ?_); rintro e w1 ⟨rfl, o1⟩; have O1 := hide (o1.alloc (.cells #[.int .i64 0, .int .i64 0, .int .i64 0] 26)); clear o1)
                  | (go_at_call 78; (with_reducible refine (PW.out _ O1.out).mono ?_); rintro e w2 ⟨rfl, o2⟩; have O2 := hide ((O1.out.trans0 o2).alloc (.cells #[.int .i64 0, .int .i64 0, .int .i64 0, .int .i64 0, .int .i64 0] 99)); clear o2)
                  | (go_at_call 32; (with_reducible refine (CT.out _ O2.out).mono ?_); rintro e w3 ⟨rfl, o3w⟩; have O3 := hide (O2.out.trans0 o3w); clear o3w)
                  | (go_at_call 81; (with_reducible refine (UW.out _ O3.out).mono ?_); rintro e w5 ⟨rfl, o5w⟩; have O5 := hide (O3.out.trans0 o5w); clear o5w; have k9 := ((H1.out.only O5.out (by simp)).cell 9); have k7 := ((H1.out.only O5.out (by simp)).cell 7); unfold rd10 at k9; unfold rd10 at k7; (try rw [HL.out] at k7); (try rw [HT.out] at k7)))
                go_ret
                exact ⟨by rw [HN.out]; exact rfl, (O5.out.below).mono hB⟩
              · have d_a : decide ((64 : Int) < (D : Int)) = false := decide_eq_false (by omega)
                have d_b : decide (64 < D) = false := decide_eq_false (by omega)
                have d_c : ¬ ((64 : Int) < (D : Int)) := by omega
                have d_d : ¬ (64 < D) := by omega
                by_cases t32 : 32 ≤ T
                · have t_a : decide ((32 : Int) ≤ (T : Int)) = true := decide_eq_true (by omega)
                  have t_b : decide (32 ≤ T) = true := decide_eq_true (by omega)
                  have t_c : ((32 : Int) ≤ (T : Int)) := by omega
                  have t_d : (32 ≤ T) := by omega
                  rw [if_pos (.inr (.inr t32))] at hLR
                  have HN := hide hLR
                  clear hLR d64 t32
                  go_enter Tryz.func54, Tryz.ntmps54
                  go_wp2_with (first
                    | (go_at_call 9; (with_reducible refine U.out.mono ?_); rintro e w1 ⟨rfl, o1⟩; have O1 := hide (o1.alloc (.cells #[.int .i64 0, .int .i64 0, .int .i64 0] 26)); clear o1)
                    | (go_at_call 78; (with_reducible refine (PW.out _ O1.out).mono ?_); rintro e w2 ⟨rfl, o2⟩; have O2 := hide ((O1.out.trans0 o2).alloc (.cells #[.int .i64 0, .int .i64 0, .int .i64 0, .int .i64 0, .int .i64 0] 99)); clear o2)
                    | (go_at_call 32; (with_reducible refine (CT.out _ O2.out).mono ?_); rintro e w3 ⟨rfl, o3w⟩; have O3 := hide (O2.out.trans0 o3w); clear o3w)
                    | (go_at_call 81; (with_reducible refine (UW.out _ O3.out).mono ?_); rintro e w5 ⟨rfl, o5w⟩; have O5 := hide (O3.out.trans0 o5w); clear o5w; have k9 := ((H1.out.only O5.out (by simp)).cell 9); have k7 := ((H1.out.only O5.out (by simp)).cell 7); unfold rd10 at k9; unfold rd10 at k7; (try rw [HL.out] at k7); (try rw [HT.out] at k7)))
                  go_ret
                  exact ⟨by rw [HN.out]; exact rfl, (O5.out.below).mono hB⟩
                · have t_a : decide ((32 : Int) ≤ (T : Int)) = false := decide_eq_false (by omega)
                  have t_b : decide (32 ≤ T) = false := decide_eq_false (by omega)
                  have t_c : ¬ ((32 : Int) ≤ (T : Int)) := by omega
                  have t_d : ¬ (32 ≤ T) := by omega
                  rw [if_neg (by rintro (h | h | h); exact (hA h); exact d64 h; exact t32 h)] at hLR
                  have HN := hide hLR
                  clear hLR d64 t32
                  go_enter Tryz.func54, Tryz.ntmps54
                  go_wp2_with (first
                    | (go_at_call 9; (with_reducible refine U.out.mono ?_); rintro e w1 ⟨rfl, o1⟩; have O1 := hide (o1.alloc (.cells #[.int .i64 0, .int .i64 0, .int .i64 0] 26)); clear o1)
                    | (go_at_call 78; (with_reducible refine (PW.out _ O1.out).mono ?_); rintro e w2 ⟨rfl, o2⟩; have O2 := hide ((O1.out.trans0 o2).alloc (.cells #[.int .i64 0, .int .i64 0, .int .i64 0, .int .i64 0, .int .i64 0] 99)); clear o2)
                    | (go_at_call 32; (with_reducible refine (CT.out _ O2.out).mono ?_); rintro e w3 ⟨rfl, o3w⟩; have O3 := hide (O2.out.trans0 o3w); clear o3w)
                    | (go_at_call 81; (with_reducible refine (UW.out _ O3.out).mono ?_); rintro e w5 ⟨rfl, o5w⟩; have O5 := hide (O3.out.trans0 o5w); clear o5w; have k9 := ((H1.out.only O5.out (by simp)).cell 9); have k7 := ((H1.out.only O5.out (by simp)).cell 7); unfold rd10 at k9; unfold rd10 at k7; (try rw [HL.out] at k7); (try rw [HT.out] at k7); have X6 := app_str w5 B TA tc (ts.map bs) (bs wd) (H3.out.only0 O5.out) (by rw [List.length_map, HT.out]; omega) (by have := O5.out.size; omega); rw [List.length_map, HT.out] at X6; obtain ⟨g', c', w4, hrun, hP4, o4w⟩ := X6; have hP := hide hP4; have o4h := hide o4w; have R4 := (H1.out.only O5.out (by simp)).only o4w (own_ne (H3.out.only0 O5.out) (H1.out.only O5.out (by simp)) (by decide)); (rw [HL.out, HT.out] at R4); have R4h := hide R4; have y9 := R4.cell 9; have y7 := R4.cell 7; have f9 := R4.frozen 9; have f7 := R4.frozen 7; have y7b := (R4.set_ 9 (.int .i64 2)).cell 7; have f7b := (R4.set_ 9 (.int .i64 2)).frozen 7; unfold rd10 at y9 y7 y7b; have y7b := (show (w4.setCell ⟨R, 9, none⟩ (.int .i64 2)).cell? ⟨R, 7, none⟩ = some (.slice TA T tc) from y7b); clear hP4 o4w R4))
                  go_ret
                  have OU := hide (((Only.refl [R] w4).setCell (p := ⟨R, 9, none⟩) (.inl (by simp)) (.int .i64 2)).setCell (p := ⟨R, 7, none⟩) (.inl (by simp)) (.slice (some ⟨g', 0, none⟩) (T + 1) c'))
                  have SU := hide (fun k (hk : k ∈ [R]) => (⟨101, _, by simp at hk; subst hk; exact R4h.out, by decide, by decide⟩ : ∃ t cs, Blk w4 k t cs ∧ t ≠ 67 ∧ t ≠ 99))
                  refine ⟨?_, ?_⟩
                  · rw [HN.out]
                    refine ⟨rfl, hBR, A, c, vs, some ⟨g', 0, none⟩, c', EA, ec, ?_, ?_, ?_, ?_⟩
                    · have := (R4h.out.set_ 9 (.int .i64 2)).set_ 7 (.slice (some ⟨g', 0, none⟩) (T + 1) c')
                      simp only [List.length_append, List.length_cons, List.length_nil, Nat.zero_add, HL.out, HT.out]
                      exact this
                    · exact ((H2.out.only0 O5.out).far o4h.out (fun k hk => (own_ty (H3.out.only0 O5.out) k hk).elim fun cs h => ⟨9, cs, h, by decide, by decide⟩)).far OU.out SU.out
                    · have := own_only' hP.out OU.out (fun k hk hm => by simp at hm; subst hm; exact own_ne hP.out R4h.out (by decide) hk)
                      show Qs _ _ _ _ (List.map bs (ts ++ [wd]))
                      rw [List.map_append]
                      exact this
                    · exact own_only' (own_only' (H4.out.only0 O5.out) o4h.out (fun k hk hm => own_apart (H3.out.only0 O5.out) (H4.out.only0 O5.out) (by decide) k hm hk)) OU.out (fun k hk hm => by simp at hm; subst hm; exact own_ne (H4.out.only0 O5.out) (H1.out.only O5.out (by simp)) (by decide) hk)
                  · have hs := O5.out.size
                    have B3 : Below B w w4 := ((O5.out.below).mono hB).trans ⟨o4h.out.os, o4h.out.tape, o4h.out.output, o4h.out.size, fun k hk => o4h.out.block k (by omega) (fun hm => by have := (own_ge H3.out k hm).1; omega)⟩
                    exact (B3.setCell (p := ⟨R, 9, none⟩) hBR (.int .i64 2)).setCell (p := ⟨R, 7, none⟩) hBR (.slice (some ⟨g', 0, none⟩) (T + 1) c')
            · have b1 : ((a : Int) != 1) = true := by simp; omega
              by_cases a2 : a = 2
              · have b2 : ((a : Int) != 2) = false := by simp; omega
                have hA : ¬ (a ≠ 1 ∧ a ≠ 2) := by omega
                clear a1 a2
                by_cases d64 : 64 < D
                · have d_a : decide ((64 : Int) < (D : Int)) = true := decide_eq_true (by omega)
                  have d_b : decide (64 < D) = true := decide_eq_true (by omega)
                  have d_c : ((64 : Int) < (D : Int)) := by omega
                  have d_d : (64 < D) := by omega
                  rw [if_pos (.inr (.inl d64))] at hLR
                  have HN := hide hLR
                  clear hLR d64
                  go_enter Tryz.func54, Tryz.ntmps54
                  go_wp2_with (first
                    | (go_at_call 9; (with_reducible refine U.out.mono ?_); rintro e w1 ⟨rfl, o1⟩; have O1 := hide (o1.alloc (.cells #[.int .i64 0, .int .i64 0, .int .i64 0] 26)); clear o1)
                    | (go_at_call 78; (with_reducible refine (PW.out _ O1.out).mono ?_); rintro e w2 ⟨rfl, o2⟩; have O2 := hide ((O1.out.trans0 o2).alloc (.cells #[.int .i64 0, .int .i64 0, .int .i64 0, .int .i64 0, .int .i64 0] 99)); clear o2)
                    | (go_at_call 32; (with_reducible refine (CT.out _ O2.out).mono ?_); rintro e w3 ⟨rfl, o3w⟩; have O3 := hide (O2.out.trans0 o3w); clear o3w)
                    | (go_at_call 81; (with_reducible refine (UW.out _ O3.out).mono ?_); rintro e w5 ⟨rfl, o5w⟩; have O5 := hide (O3.out.trans0 o5w); clear o5w; have k9 := ((H1.out.only O5.out (by simp)).cell 9); have k7 := ((H1.out.only O5.out (by simp)).cell 7); unfold rd10 at k9; unfold rd10 at k7; (try rw [HL.out] at k7); (try rw [HT.out] at k7)))
                  go_ret
                  exact ⟨by rw [HN.out]; exact rfl, (O5.out.below).mono hB⟩
                · have d_a : decide ((64 : Int) < (D : Int)) = false := decide_eq_false (by omega)
                  have d_b : decide (64 < D) = false := decide_eq_false (by omega)
                  have d_c : ¬ ((64 : Int) < (D : Int)) := by omega
                  have d_d : ¬ (64 < D) := by omega
                  by_cases t32 : 32 ≤ T
                  · have t_a : decide ((32 : Int) ≤ (T : Int)) = true := decide_eq_true (by omega)
                    have t_b : decide (32 ≤ T) = true := decide_eq_true (by omega)
                    have t_c : ((32 : Int) ≤ (T : Int)) := by omega
                    have t_d : (32 ≤ T) := by omega
                    rw [if_pos (.inr (.inr t32))] at hLR
                    have HN := hide hLR
                    clear hLR d64 t32
                    go_enter Tryz.func54, Tryz.ntmps54
                    go_wp2_with (first
                      | (go_at_call 9; (with_reducible refine U.out.mono ?_); rintro e w1 ⟨rfl, o1⟩; have O1 := hide (o1.alloc (.cells #[.int .i64 0, .int .i64 0, .int .i64 0] 26)); clear o1)
                      | (go_at_call 78; (with_reducible refine (PW.out _ O1.out).mono ?_); rintro e w2 ⟨rfl, o2⟩; have O2 := hide ((O1.out.trans0 o2).alloc (.cells #[.int .i64 0, .int .i64 0, .int .i64 0, .int .i64 0, .int .i64 0] 99)); clear o2)
                      | (go_at_call 32; (with_reducible refine (CT.out _ O2.out).mono ?_); rintro e w3 ⟨rfl, o3w⟩; have O3 := hide (O2.out.trans0 o3w); clear o3w)
                      | (go_at_call 81; (with_reducible refine (UW.out _ O3.out).mono ?_); rintro e w5 ⟨rfl, o5w⟩; have O5 := hide (O3.out.trans0 o5w); clear o5w; have k9 := ((H1.out.only O5.out (by simp)).cell 9); have k7 := ((H1.out.only O5.out (by simp)).cell 7); unfold rd10 at k9; unfold rd10 at k7; (try rw [HL.out] at k7); (try rw [HT.out] at k7)))
                    go_ret
                    exact ⟨by rw [HN.out]; exact rfl, (O5.out.below).mono hB⟩
                  · have t_a : decide ((32 : Int) ≤ (T : Int)) = false := decide_eq_false (by omega)
                    have t_b : decide (32 ≤ T) = false := decide_eq_false (by omega)
                    have t_c : ¬ ((32 : Int) ≤ (T : Int)) := by omega
                    have t_d : ¬ (32 ≤ T) := by omega
                    rw [if_neg (by rintro (h | h | h); exact (hA h); exact d64 h; exact t32 h)] at hLR
                    have HN := hide hLR
                    clear hLR d64 t32
                    go_enter Tryz.func54, Tryz.ntmps54
                    go_wp2_with (first
                      | (go_at_call 9; (with_reducible refine U.out.mono ?_); rintro e w1 ⟨rfl, o1⟩; have O1 := hide (o1.alloc (.cells #[.int .i64 0, .int .i64 0, .int .i64 0] 26)); clear o1)
                      | (go_at_call 78; (with_reducible refine (PW.out _ O1.out).mono ?_); rintro e w2 ⟨rfl, o2⟩; have O2 := hide ((O1.out.trans0 o2).alloc (.cells #[.int .i64 0, .int .i64 0, .int .i64 0, .int .i64 0, .int .i64 0] 99)); clear o2)
                      | (go_at_call 32; (with_reducible refine (CT.out _ O2.out).mono ?_); rintro e w3 ⟨rfl, o3w⟩; have O3 := hide (O2.out.trans0 o3w); clear o3w)
                      | (go_at_call 81; (with_reducible refine (UW.out _ O3.out).mono ?_); rintro e w5 ⟨rfl, o5w⟩; have O5 := hide (O3.out.trans0 o5w); clear o5w; have k9 := ((H1.out.only O5.out (by simp)).cell 9); have k7 := ((H1.out.only O5.out (by simp)).cell 7); unfold rd10 at k9; unfold rd10 at k7; (try rw [HL.out] at k7); (try rw [HT.out] at k7); have X6 := app_str w5 B TA tc (ts.map bs) (bs wd) (H3.out.only0 O5.out) (by rw [List.length_map, HT.out]; omega) (by have := O5.out.size; omega); rw [List.length_map, HT.out] at X6; obtain ⟨g', c', w4, hrun, hP4, o4w⟩ := X6; have hP := hide hP4; have o4h := hide o4w; have R4 := (H1.out.only O5.out (by simp)).only o4w (own_ne (H3.out.only0 O5.out) (H1.out.only O5.out (by simp)) (by decide)); (rw [HL.out, HT.out] at R4); have R4h := hide R4; have y9 := R4.cell 9; have y7 := R4.cell 7; have f9 := R4.frozen 9; have f7 := R4.frozen 7; have y7b := (R4.set_ 9 (.int .i64 2)).cell 7; have f7b := (R4.set_ 9 (.int .i64 2)).frozen 7; unfold rd10 at y9 y7 y7b; have y7b := (show (w4.setCell ⟨R, 9, none⟩ (.int .i64 2)).cell? ⟨R, 7, none⟩ = some (.slice TA T tc) from y7b); clear hP4 o4w R4))
                    go_ret
                    have OU := hide (((Only.refl [R] w4).setCell (p := ⟨R, 9, none⟩) (.inl (by simp)) (.int .i64 2)).setCell (p := ⟨R, 7, none⟩) (.inl (by simp)) (.slice (some ⟨g', 0, none⟩) (T + 1) c'))
                    have SU := hide (fun k (hk : k ∈ [R]) => (⟨101, _, by simp at hk; subst hk; exact R4h.out, by decide, by decide⟩ : ∃ t cs, Blk w4 k t cs ∧ t ≠ 67 ∧ t ≠ 99))
                    refine ⟨?_, ?_⟩
                    · rw [HN.out]
                      refine ⟨rfl, hBR, A, c, vs, some ⟨g', 0, none⟩, c', EA, ec, ?_, ?_, ?_, ?_⟩
                      · have := (R4h.out.set_ 9 (.int .i64 2)).set_ 7 (.slice (some ⟨g', 0, none⟩) (T + 1) c')
                        simp only [List.length_append, List.length_cons, List.length_nil, Nat.zero_add, HL.out, HT.out]
                        exact this
                      · exact ((H2.out.only0 O5.out).far o4h.out (fun k hk => (own_ty (H3.out.only0 O5.out) k hk).elim fun cs h => ⟨9, cs, h, by decide, by decide⟩)).far OU.out SU.out
                      · have := own_only' hP.out OU.out (fun k hk hm => by simp at hm; subst hm; exact own_ne hP.out R4h.out (by decide) hk)
                        show Qs _ _ _ _ (List.map bs (ts ++ [wd]))
                        rw [List.map_append]
                        exact this
                      · exact own_only' (own_only' (H4.out.only0 O5.out) o4h.out (fun k hk hm => own_apart (H3.out.only0 O5.out) (H4.out.only0 O5.out) (by decide) k hm hk)) OU.out (fun k hk hm => by simp at hm; subst hm; exact own_ne (H4.out.only0 O5.out) (H1.out.only O5.out (by simp)) (by decide) hk)
                    · have hs := O5.out.size
                      have B3 : Below B w w4 := ((O5.out.below).mono hB).trans ⟨o4h.out.os, o4h.out.tape, o4h.out.output, o4h.out.size, fun k hk => o4h.out.block k (by omega) (fun hm => by have := (own_ge H3.out k hm).1; omega)⟩
                      exact (B3.setCell (p := ⟨R, 9, none⟩) hBR (.int .i64 2)).setCell (p := ⟨R, 7, none⟩) hBR (.slice (some ⟨g', 0, none⟩) (T + 1) c')
              · have b2 : ((a : Int) != 2) = true := by simp; omega
                rw [if_pos (.inl ⟨a1, a2⟩)] at hLR
                have HN := hide hLR
                clear hLR a1 a2
                go_enter Tryz.func54, Tryz.ntmps54
                go_wp2_with (first
                  | (go_at_call 9; (with_reducible refine U.out.mono ?_); rintro e w1 ⟨rfl, o1⟩; have O1 := hide (o1.alloc (.cells #[.int .i64 0, .int .i64 0, .int .i64 0] 26)); clear o1)
                  | (go_at_call 78; (with_reducible refine (PW.out _ O1.out).mono ?_); rintro e w2 ⟨rfl, o2⟩; have O2 := hide ((O1.out.trans0 o2).alloc (.cells #[.int .i64 0, .int .i64 0, .int .i64 0, .int .i64 0, .int .i64 0] 99)); clear o2)
                  | (go_at_call 32; (with_reducible refine (CT.out _ O2.out).mono ?_); rintro e w3 ⟨rfl, o3w⟩; have O3 := hide (O2.out.trans0 o3w); clear o3w)
                  | (go_at_call 81; (with_reducible refine (UW.out _ O3.out).mono ?_); rintro e w5 ⟨rfl, o5w⟩; have O5 := hide (O3.out.trans0 o5w); clear o5w; have k9 := ((H1.out.only O5.out (by simp)).cell 9); have k7 := ((H1.out.only O5.out (by simp)).cell 7); unfold rd10 at k9; unfold rd10 at k7; (try rw [HL.out] at k7); (try rw [HT.out] at k7)))
                go_ret
                exact ⟨by rw [HN.out]; exact rfl, (O5.out.below).mono hB⟩
        · rw [if_neg tx] at hLR
          have HN := hide hLR
          clear hLR
          by_cases t1 : l1 = textW
          · have et : ((bs l1).toList == (ByteArray.mk #[116, 101, 120, 116]).toList) = true := et0.trans (by simpa using t1)
            have et2 : ((bs l1).toList == [116, 101, 120, 116]) = true := et1.trans (by simpa using t1)
            have t3 : l3 = false := by cases l3 with | true => exact absurd ⟨t1, rfl⟩ tx | false => rfl
            subst t3
            clear et0 et1 t1 tx
            go_enter Tryz.func54, Tryz.ntmps54
            go_wp2_with (first
              | (go_at_call 9; (with_reducible refine U.out.mono ?_); rintro e w1 ⟨rfl, o1⟩; have O1 := hide (o1.alloc (.cells #[.int .i64 0, .int .i64 0, .int .i64 0] 26)); clear o1)
              | (go_at_call 78; (with_reducible refine (PW.out _ O1.out).mono ?_); rintro e w2 ⟨rfl, o2⟩; have O2 := hide ((O1.out.trans0 o2).alloc (.cells #[.int .i64 0, .int .i64 0, .int .i64 0, .int .i64 0, .int .i64 0] 99)); clear o2)
              | (go_at_call 32; (with_reducible refine (CT.out _ O2.out).mono ?_); rintro e w3 ⟨rfl, o3w⟩; have O3 := hide (O2.out.trans0 o3w); clear o3w))
            go_ret
            exact ⟨by rw [HN.out]; exact rfl, (O3.out.below).mono hB⟩
          · have et : ((bs l1).toList == (ByteArray.mk #[116, 101, 120, 116]).toList) = false := et0.trans (by simpa using t1)
            have et2 : ((bs l1).toList == [116, 101, 120, 116]) = false := et1.trans (by simpa using t1)
            clear et0 et1 t1 tx
            go_enter Tryz.func54, Tryz.ntmps54
            go_wp2_with (first
              | (go_at_call 9; (with_reducible refine U.out.mono ?_); rintro e w1 ⟨rfl, o1⟩; have O1 := hide (o1.alloc (.cells #[.int .i64 0, .int .i64 0, .int .i64 0] 26)); clear o1)
              | (go_at_call 78; (with_reducible refine (PW.out _ O1.out).mono ?_); rintro e w2 ⟨rfl, o2⟩; have O2 := hide ((O1.out.trans0 o2).alloc (.cells #[.int .i64 0, .int .i64 0, .int .i64 0, .int .i64 0, .int .i64 0] 99)); clear o2)
              | (go_at_call 32; (with_reducible refine (CT.out _ O2.out).mono ?_); rintro e w3 ⟨rfl, o3w⟩; have O3 := hide (O2.out.trans0 o3w); clear o3w))
            go_ret
            exact ⟨by rw [HN.out]; exact rfl, (O3.out.below).mono hB⟩
end Go.Proofs.YteblhklclcjonaaGreatDoor
