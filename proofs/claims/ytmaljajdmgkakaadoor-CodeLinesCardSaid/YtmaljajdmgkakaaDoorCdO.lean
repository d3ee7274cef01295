/- Code, the document's: the walk of Parse. Condition: Env; a text of at most 100000 bytes. -/
import Derived.Test.YtmaljajdmgkakaaDoorCdN
import Derived.Test.YtmaljajdmgkakaaDoorCd9
import Derived.Test.YtmaljajdmgkakaaDoorCd2
namespace Go.Proofs.YtmaljajdmgkakaaDoor
open Go.RowKit
set_option linter.unusedVariables false
set_option linter.all false
set_option maxRecDepth 20000

/-- The number of a word, of those under q. -/
def opU (wd : List UInt8) : Nat → Int
  | 0 => -1
  | q + 1 => if nmB q = wd then q else opU wd q
theorem opU_none (wd : List UInt8) : ∀ q, (∀ j, j < q → nmB j ≠ wd) → opU wd q = -1
  | 0, _ => rfl
  | q + 1, h => by
    unfold opU
    rw [if_neg (h q (by omega))]
    exact opU_none wd q (fun j hj => h j (by omega))
theorem opU_nm : ∀ k, k < 9 → opU (nmB k) 9 = k := by decide
theorem opU_at (wd : List UInt8) : opU wd 9 = opAt wd := by
  by_cases h : 0 ≤ opAt wd
  · have h1 := opAt_some h
    have h2 := (opAt_range wd).2
    obtain ⟨k, hk⟩ : ∃ k : Nat, opAt wd = k := ⟨(opAt wd).toNat, by omega⟩
    rw [hk] at h1 ⊢
    rw [← h1]
    exact opU_nm k (by omega)
  · have h2 := (opAt_range wd).1
    rw [opU_none wd 9 (fun j hj hc => h (by rw [← hc, opAt_nm j hj]; omega))]
    omega
/-- The registers' numbers, and what is behind them. -/
def stR (n : Nat → Bool) (r : List UInt8) : Nat → Option ((Nat → Int) × List UInt8)
  | 0 => some (fun _ => 0, r)
  | q + 1 => match stR n r q with
    | none => none
    | some x => match regR (n q) x.2 with
      | none => none
      | some y => some (fun j => if j = q then y.1 else x.1 j, y.2)
theorem stR_none (n : Nat → Bool) (r : List UInt8) (q : Nat) (h : stR n r q = none) : ∀ p, q ≤ p → stR n r p = none
  | 0, hp => by obtain rfl : q = 0 := by omega
                exact h
  | p + 1, hp => by
    by_cases he : q = p + 1
    · rw [← he]; exact h
    · have := stR_none n r q h p (by omega)
      unfold stR
      rw [this]
theorem insR_st (k : Nat) (r : List UInt8) : insR k r = match stR (nB (shp k).d (shp k).a (shp k).b) r 3 with
    | none => none
    | some x => some ⟨k, x.1 0, x.1 1, x.1 2, immR (shp k).imm x.2⟩ := by
  unfold insR
  simp only [stR, nB]
  cases regR (shp k).d r with
  | none => rfl
  | some x =>
    simp only
    cases regR (shp k).a x.2 with
    | none => rfl
    | some y =>
      simp only
      cases regR (shp k).b y.2 with
      | none => rfl
      | some z => simp
def l3 (L : Nat → Int) : Array Value := #[.int .i64 (L 0), .int .i64 (L 1), .int .i64 (L 2)]
theorem l3_get (L : Nat → Int) : ∀ q, q < 3 → (l3 L)[q]? = some (.int .i64 (L q)) := by
  intro q hq
  rcases (by omega : q = 0 ∨ q = 1 ∨ q = 2) with h | h | h
  all_goals (subst h; rfl)
theorem l3_set (L : Nat → Int) (v : Int) : ∀ q, q < 3 → (l3 L).setIfInBounds q (.int .i64 v) = l3 (fun j => if j = q then v else L j) := by
  intro q hq
  rcases (by omega : q = 0 ∨ q = 1 ∨ q = 2) with h | h | h
  all_goals (subst h; rfl)
theorem l3_same (L : Nat → Int) (q : Nat) (h : L q = 0) : (fun j => if j = q then 0 else L j) = L := by
  funext j
  split
  · rename_i hj; rw [hj, h]
  · rfl
theorem info59 : (Tryd.prog.info? 59).map (fun i => (i.zero, i.size)) = some (some (.agg #[.int .i64 0, .int .i64 0, .int .i64 0]), 3) := by kernel_rfl
def I5 (o d a b m : Int) : Array Value := #[.int .i64 o, .int .i64 d, .int .i64 a, .int .i64 b, .int .i64 m]
set_option maxHeartbeats 16000000 in
theorem rparse_any (s : List UInt8) (hs : s.length ≤ 100000) (w : World) (he : Env w) (hw4 : 4 ≤ w.heap.size) : Calls Tryd.prog 9 #[.string (bs s)] w fun e w' => e = .returned (parV (refP s)) ∧ Only [] w w' := by
  obtain ⟨X, hX⟩ : ∃ X, w.heap.size = X := ⟨_, rfl⟩
  have hX4 : 4 ≤ X := by omega
  have bX : Blk ((w.alloc (.cells z5 24)).alloc (.cells (I5 (-1) 0 0 0 0) 24)) X 24 z5 := by rw [← hX]; exact (Blk.new w 24 z5).alloc _
  have bI : Blk ((w.alloc (.cells z5 24)).alloc (.cells (I5 (-1) 0 0 0 0) 24)) (X + 1) 24 (I5 (-1) 0 0 0 0) := by
    have := Blk.new (w.alloc (.cells z5 24)) 24 (I5 (-1) 0 0 0 0)
    rw [World.size_alloc, hX] at this
    exact this
  have oW : Only [] w ((w.alloc (.cells z5 24)).alloc (.cells (I5 (-1) 0 0 0 0) 24)) := ((Only.refl [] w).alloc _).alloc _
  obtain ⟨W, hW⟩ : ∃ W, (w.alloc (.cells z5 24)).alloc (.cells (I5 (-1) 0 0 0 0) 24) = W := ⟨_, rfl⟩
  rw [hW] at bX bI oW
  have RC := hide (rcut_any s (by omega) W)
  obtain ⟨wd, hwd⟩ : ∃ wd, (cutAt 32 s).1 = wd := ⟨_, rfl⟩
  obtain ⟨r0, hr0⟩ : ∃ r0, (cutAt 32 s).2.1 = r0 := ⟨_, rfl⟩
  rw [hwd, hr0] at RC
  have hr0l : r0.length ≤ 100000 := by rw [← hr0]; have := (cut_le 32 s).2; omega
  have HWD := hide hwd
  have HR0 := hide hr0
  have OW := hide oW
  have HE := hide he
  have BX := hide bX
  have BI := hide bI
  have HX := hide hX
  unfold z5 I5 at hW
  have HW := hide hW
  clear bX bI oW he hX hW hwd hr0 hw4
  go_enter Tryd.func9, Tryd.ntmps9
  go_wp2_with (go_at_call 33; rw [HX.out, HW.out]; (with_reducible refine RC.out.mono ?_); rintro e w1 ⟨rfl, o1⟩)
  have BX1 := hide (BX.out.only o1 (by simp))
  have BI1 := hide (BI.out.only o1 (by simp))
  have O1 := hide (OW.out.trans0 o1)
  have HS1 := hide (show X + 2 ≤ w1.heap.size by have := BI1.out.lt; omega)
  clear o1 BX BI OW RC HW
  go_loopw [7] (fun vk wr => ∃ (q : Nat) (U : World), q ≤ 9 ∧ vk = .int .i64 q ∧ Only [X + 1] w1 U ∧ Blk U (X + 1) 24 (I5 (opU wd q) 0 0 0 0) ∧ U = wr) (fun vk _ => 9 - (intOf vk).toNat)
  case atStart => exact ⟨0, _, by omega, rfl, (Only.refl _ _), BI1.out, (by first | rfl | trivial)⟩
  case round =>
    obtain ⟨q, U, hq, rfl, oq, bq, hw⟩ := hrel
    obtain rfl := hw
    by_cases hq9 : q < 9
    · have nc := namv_cell U q hq9
      have c0 : (U.alloc (.cells NAMV 9)).cell? ⟨X + 1, 0, none⟩ = some (.int .i64 (opU wd q)) := (bq.alloc _).cell 0
      have fz := (bq.alloc (.cells NAMV 9)).frozen 0
      have j0 : (q : Int) < 9 := by omega
      have j1 : (0 : Int) ≤ (q : Int) := by omega
      have BQ := hide bq
      have OQ := hide oq
      have cmp := bs_eq (nmB q) wd
      obtain ⟨SW, hSW⟩ : ∃ SW, bs wd = SW := ⟨_, rfl⟩
      obtain ⟨SQ, hSQ⟩ : ∃ SQ, bs (nmB q) = SQ := ⟨_, rfl⟩
      rw [hSW, hSQ] at cmp
      rw [hSQ] at nc
      rw [hSW]
      clear bq oq hSW hSQ
      by_cases hnm : nmB q = wd
      · have hop := hide (show opU wd (q + 1) = q from if_pos hnm)
        rw [show (nmB q == wd) = true by simp [hnm]] at cmp
        clear hnm
        go_wp2_with (go_at_call 34; (with_reducible refine (names_any _).mono ?_); rintro e w2 ⟨rfl, rfl⟩)
        go_roundw
        case rel => exact ⟨q + 1, (U.alloc (.cells NAMV 9)).setCell ⟨X + 1, 0, none⟩ (.int .i64 q), by omega, by go_num, (OQ.out.alloc _).setCell (.inl (by simp)) _, by rw [hop.out]; simpa [I5] using (BQ.out.alloc (.cells NAMV 9)).set_ 0 (.int .i64 q), (by first | rfl | trivial)⟩
        case measure => simp [intOf]; omega
      · have hop := hide (show opU wd (q + 1) = opU wd q from if_neg hnm)
        rw [show (nmB q == wd) = false by simp [hnm]] at cmp
        clear hnm
        go_wp2_with (go_at_call 34; (with_reducible refine (names_any _).mono ?_); rintro e w2 ⟨rfl, rfl⟩)
        go_roundw
        case rel => exact ⟨q + 1, U.alloc (.cells NAMV 9), by omega, by go_num, (OQ.out.alloc _), by rw [hop.out]; exact BQ.out.alloc _, (by first | rfl | trivial)⟩
        case measure => simp [intOf]; omega
    · obtain rfl : q = 9 := by omega
      rw [opU_at] at bq
      have BX2 := hide (BX1.out.only oq (by simp))
      have O2 := hide (O1.out.trans oq (fun x hx => .inr (by have := HX.out; simp at hx; omega)))
      have HS2 := hide (show X + 2 ≤ U.heap.size by have := oq.size; have := HS1.out; omega)
      have BI2 := hide bq
      clear bq oq BX1 BI1 O1 HS1
      by_cases hop : 0 ≤ opAt wd
      · obtain ⟨k, hk⟩ : ∃ k : Nat, opAt wd = k := ⟨(opAt wd).toNat, by omega⟩
        have hk9 : k < 9 := by have := (opAt_range wd).2; omega
        have NM := fun W => named_ok k hk9 W
        unfold namV at NM
        have PG : refP s = match stR (nB (shp k).d (shp k).a (shp k).b) r0 3 with
            | none => none
            | some x => if mayI ⟨k, x.1 0, x.1 1, x.1 2, immR (shp k).imm x.2⟩ 256 = true ∧ lineB ⟨k, x.1 0, x.1 1, x.1 2, immR (shp k).imm x.2⟩ = s then some ⟨k, x.1 0, x.1 1, x.1 2, immR (shp k).imm x.2⟩ else none := by
          unfold refP
          rw [HWD.out, HR0.out, if_pos (by unfold opOk; simp; omega), hk, Int.toNat_natCast, insR_st]
          cases stR (nB (shp k).d (shp k).a (shp k).b) r0 3 <;> rfl
        obtain ⟨sd, hsd⟩ : ∃ d, (shp k).d = d := ⟨_, rfl⟩
        obtain ⟨sa, hsa⟩ : ∃ d, (shp k).a = d := ⟨_, rfl⟩
        obtain ⟨sb, hsb⟩ : ∃ d, (shp k).b = d := ⟨_, rfl⟩
        obtain ⟨m, hmm⟩ : ∃ m, (shp k).imm = m := ⟨_, rfl⟩
        rw [hsd, hsa, hsb, hmm] at NM
        rw [hsd, hsa, hsb, hmm] at PG
        have PG := hide PG
        have NM := hide NM
        rw [hk] at BI2
        have c0 : U.cell? ⟨X + 1, 0, none⟩ = some (.int .i64 (k : Int)) := BI2.out.cell 0
        clear hk hop hsd hsa hsb hmm
        go_wp2_with (go_at_call 35; (with_reducible refine (NM.out _).mono ?_); rintro e u1 ⟨rfl, o2⟩)
        obtain ⟨A, hA⟩ : ∃ A, u1.heap.size = A := ⟨_, rfl⟩
        have bN := (Blk.new u1 57 #[.bool sd, .bool sa, .bool sb]).alloc (.cells #[.int .i64 0, .int .i64 0, .int .i64 0] 59)
        have bL := Blk.new (u1.alloc (.cells #[.bool sd, .bool sa, .bool sb] 57)) 59 #[.int .i64 0, .int .i64 0, .int .i64 0]
        have oo := (o2.alloc (.cells #[.bool sd, .bool sa, .bool sb] 57)).alloc (.cells #[.int .i64 0, .int .i64 0, .int .i64 0] 59)
        have bX := BX2.out.only oo (by simp)
        have bI := BI2.out.only oo (by simp)
        have oV := O2.out.trans0 oo
        have hsz := oo.size
        rw [World.size_alloc, hA] at bL
        rw [hA] at bN
        simp only [hA]
        obtain ⟨V, hV⟩ : ∃ V, (u1.alloc (.cells #[.bool sd, .bool sa, .bool sb] 57)).alloc (.cells #[.int .i64 0, .int .i64 0, .int .i64 0] 59) = V := ⟨_, rfl⟩
        rw [hV] at bL bN bX bI oV ⊢
        have BL := hide bL
        have BN := hide bN
        have BX3 := hide bX
        have BI3 := hide bI
        have O3 := hide oV
        have HA2 := HS2.out
        have HAL := o2.size
        obtain ⟨L, hL⟩ : ∃ L, A + 1 = L := ⟨_, rfl⟩
        rw [hL] at BL ⊢
        have HLX := hide (show X + 2 < L ∧ A ≠ L by omega)
        have ne1 : ¬ L = X + 1 := by omega
        have ne2 : ¬ X + 1 = L := by omega
        have ne3 : ¬ X = L := by omega
        have ne4 : ¬ A = L := by omega
        clear hL HA2 HAL hsz hV hA oo o2 bL bN bX bI oV c0 BX2 BI2 O2
        go_loopw [6, 12] (fun vr vk wr => ∃ (q : Nat) (Lf : Nat → Int) (r : List UInt8) (T : World), q ≤ 3 ∧ vr = .string (bs r) ∧ vk = .int .i64 q ∧ stR (nB sd sa sb) r0 q = some (Lf, r) ∧ (∀ j, q ≤ j → Lf j = 0) ∧ r.length ≤ 100000 ∧ Blk T L 59 (l3 Lf) ∧ Only [L] V T ∧ T = wr) (fun _ vk _ => 3 - (intOf vk).toNat)
        case atStart => exact ⟨0, fun _ => 0, r0, V, by omega, rfl, rfl, rfl, fun _ _ => rfl, hr0l, BL.out, Only.refl _ _, (by first | rfl | trivial)⟩
        case round =>
          obtain ⟨q, Lf, r, T, hq, rfl, rfl, hst, hzr, hrl, bq, oq, hw⟩ := hrel
          obtain rfl := hw
          by_cases hq3 : q < 3
          · have j0 : (q : Int) < 3 := by omega
            have j1 : (0 : Int) ≤ (q : Int) := by omega
            have cN := ((BN.out.only oq (by simp; omega)).cell q).trans (nB_get sd sa sb q hq3)
            have BQ := hide bq
            have OQ := hide oq
            have HZR := hide hzr
            have lq := (bq.cell q).trans (l3_get Lf q hq3)
            have fq := bq.frozen q
            obtain ⟨nq, hnq⟩ : ∃ nq, nB sd sa sb q = nq := ⟨_, rfl⟩
            rw [hnq] at cN
            clear bq oq hzr
            cases nq
            · have hst1 := hide (show stR (nB sd sa sb) r0 (q + 1) = some (Lf, r) by unfold stR; rw [hst]; simp only; rw [hnq]; simp [regR, l3_same Lf q (HZR.out q (by omega))])
              clear hst hnq lq fq
              go_wp2_with fail
              go_roundw
              case rel => exact ⟨q + 1, Lf, r, T, by omega, rfl, by go_num, hst1.out, fun j hj => HZR.out j (by omega), hrl, BQ.out, OQ.out, (by first | rfl | trivial)⟩
              case measure => simp [intOf]; omega
            · have RC := hide (rcut_any r (by omega) T)
              have hcl := (cut_le 32 r).2
              by_cases h2 : (cutAt 32 r).1.length = 2
              · obtain ⟨a, c, hx⟩ : ∃ a c, (cutAt 32 r).1 = [a, c] := by
                  match hc : (cutAt 32 r).1, h2 with
                  | [a, c], _ => exact ⟨a, c, rfl⟩
                have hw0 : regR true r = if a = 114 ∧ 48 ≤ c.toNat ∧ c.toNat ≤ 55 then some ((c.toNat : Int) - 48, (cutAt 32 r).2.1) else none := by unfold regR; rw [if_pos rfl, hx]
                have hz : bs (cutAt 32 r).1 = ⟨#[a, c]⟩ := by rw [hx]; rfl
                clear h2 hx
                have z0 : ((((bs (cutAt 32 r).1).size : Nat) : Int) != 2) = false := by rw [hz]; rfl
                have z1 : 0 < (bs (cutAt 32 r).1).size := by rw [hz]; exact (by decide : 0 < 2)
                have z2 : 1 < (bs (cutAt 32 r).1).size := by rw [hz]; exact (by decide : 1 < 2)
                have g0 : (bs (cutAt 32 r).1)[0]'z1 = a := by simp only [hz]; rfl
                have g1 : (bs (cutAt 32 r).1)[1]'z2 = c := by simp only [hz]; rfl
                by_cases ha : a = 114
                · by_cases hc0 : 48 ≤ c.toNat
                  · by_cases hc1 : c.toNat ≤ 55
                    · have b1 : ((((bs (cutAt 32 r).1)[0]'z1).toNat : Int) != 114) = false := by rw [g0, ha]; rfl
                      have b1' : ((((bs (cutAt 32 r).1)[0]'z1).toNat) != 114) = false := by rw [g0, ha]; rfl
                      have b1'' : ((((bs (cutAt 32 r).1)[0]'z1).toNat : Int) == 114) = true := by rw [g0, ha]; rfl
                      have b2' : decide ((c.toNat) < 48) = false :=  decide_eq_false (by omega)
                      have b3' : decide (55 < (c.toNat)) = false :=  decide_eq_false (by omega)
                      have b3'' : decide (55 < (c.toNat : Int)) = false :=  decide_eq_false (by omega)
                      have b2 : decide ((c.toNat : Int) < 48) = false :=  decide_eq_false (by omega)
                      have b3 : decide ((c.toNat : Int) > 55) = false :=  decide_eq_false (by omega)
                      have hgood := hw0.trans (if_pos ⟨ha, hc0, hc1⟩)
                      have hst1 := hide (show stR (nB sd sa sb) r0 (q + 1) = some (fun j => if j = q then (c.toNat : Int) - 48 else Lf j, (cutAt 32 r).2.1) by unfold stR; rw [hst]; simp only; rw [hnq, hgood])
                      clear hgood hw0 ha hnq hst
                      generalize bs (cutAt 32 r).1 = S at *
                      obtain ⟨r', hr'⟩ : ∃ r', (cutAt 32 r).2.1 = r' := ⟨_, rfl⟩
                      rw [hr'] at hcl hst1 RC
                      obtain ⟨v, hv⟩ : ∃ v : Int, (c.toNat : Int) - 48 = v := ⟨_, rfl⟩
                      have hv0 : 0 ≤ v ∧ v ≤ 7 := by omega
                      rw [hv] at hst1
                      clear hz hr' g0
                      go_wp2_with (go_at_call 33; (with_reducible refine RC.out.mono ?_); rintro e u2 ⟨rfl, o'⟩; have Oa := hide (OQ.out.trans0 o'); have BQa := hide (BQ.out.only o' (by simp)); have lqa := (BQa.out.cell q).trans (l3_get Lf q hq3); have fqa := BQa.out.frozen q; clear o')
                      go_roundw
                      case rel => exact ⟨q + 1, fun j => if j = q then v else Lf j, r', _, by omega, rfl, by go_num, hst1.out, fun j hj => (if_neg (show ¬ j = q by omega)).trans (HZR.out j (by omega)), by omega, by have := BQa.out.set_ q (.int .i64 v); rw [l3_set Lf v q hq3] at this; exact this, Oa.out.setCell (.inl (by simp)) _, (by first | rfl | trivial)⟩
                      case measure => simp [intOf]; omega
                    · have hbad : regR true r = none := hw0.trans (if_neg (fun h => hc1 h.2.2))
                      have PB := hide (PG.out.trans (by rw [stR_none _ _ (q + 1) (by unfold stR; rw [hst]; simp only; rw [hnq, hbad]) 3 (by omega)]))
                      have b1 : ((((bs (cutAt 32 r).1)[0]'z1).toNat : Int) != 114) = false := by rw [g0, ha]; rfl
                      have b2 : decide ((c.toNat : Int) < 48) = false := decide_eq_false (by omega)
                      have b2' : decide (c.toNat < 48) = false := decide_eq_false (by omega)
                      have b3 : decide ((55 : Int) < (c.toNat : Int)) = true := decide_eq_true (by omega)
                      have b3' : decide (55 < c.toNat) = true := decide_eq_true (by omega)
                      generalize bs (cutAt 32 r).1 = S at *
                      obtain ⟨S', hS'⟩ : ∃ S', bs (cutAt 32 r).2.1 = S' := ⟨_, rfl⟩
                      rw [hS'] at RC
                      clear hS' hbad hst hnq hz hw0 g0
                      go_wp2_with (go_at_call 33; (with_reducible refine RC.out.mono ?_); rintro e u2 ⟨rfl, o'⟩; have Oa := hide (OQ.out.trans0 o'); have BXa := hide (BX3.out.only Oa.out (by simp; omega)); have x0 : u2.cell? ⟨X, 0, none⟩ = some (.int .i64 0) := BXa.out.cell 0; have y0 := BXa.out.frozen 0; have x1 : u2.cell? ⟨X, 1, none⟩ = some (.int .i64 0) := BXa.out.cell 1; have y1 := BXa.out.frozen 1; have x2 : u2.cell? ⟨X, 2, none⟩ = some (.int .i64 0) := BXa.out.cell 2; have y2 := BXa.out.frozen 2; have x3 : u2.cell? ⟨X, 3, none⟩ = some (.int .i64 0) := BXa.out.cell 3; have y3 := BXa.out.frozen 3; have x4 : u2.cell? ⟨X, 4, none⟩ = some (.int .i64 0) := BXa.out.cell 4; have y4 := BXa.out.frozen 4; clear o')
                      (try simp only [Exit.inBlock, Exit.then])
                      have BFF := (((((BXa.out).set_ 0 (.int .i64 0)).set_ 1 (.int .i64 0)).set_ 2 (.int .i64 0)).set_ 3 (.int .i64 0)).set_ 4 (.int .i64 0)
                      refine bodyPost_ret (v := .tuple #[.agg z5, .int .i64 4]) (results_cell2 Tryd.results9 rfl rfl (load24 (a := .int .i64 0) (b := .int .i64 0) (c := .int .i64 0) (d := .int .i64 0) (e := .int .i64 0) (by simpa [z5] using BFF))) rfl ⟨by rw [PB.out]; rfl, ?_⟩
                      exact ((((((((O3.out.trans Oa.out (fun x hx => .inr (by have := HLX.out; have := HX.out; simp at hx; omega))).mono (T := [X]) (by simp))).setCell (p := ⟨X, 0, none⟩) (.inl (by simp)) _).setCell (p := ⟨X, 1, none⟩) (.inl (by simp)) _).setCell (p := ⟨X, 2, none⟩) (.inl (by simp)) _).setCell (p := ⟨X, 3, none⟩) (.inl (by simp)) _).setCell (p := ⟨X, 4, none⟩) (.inl (by simp)) _).mono (fun x hx => .inr (by have := HX.out; simp at hx; omega))
                  · have hbad : regR true r = none := hw0.trans (if_neg (fun h => hc0 h.2.1))
                    have PB := hide (PG.out.trans (by rw [stR_none _ _ (q + 1) (by unfold stR; rw [hst]; simp only; rw [hnq, hbad]) 3 (by omega)]))
                    have b1 : ((((bs (cutAt 32 r).1)[0]'z1).toNat : Int) != 114) = false := by rw [g0, ha]; rfl
                    have b2 : decide ((c.toNat : Int) < 48) = true := decide_eq_true (by omega)
                    have b2' : decide (c.toNat < 48) = true := decide_eq_true (by omega)
                    generalize bs (cutAt 32 r).1 = S at *
                    obtain ⟨S', hS'⟩ : ∃ S', bs (cutAt 32 r).2.1 = S' := ⟨_, rfl⟩
                    rw [hS'] at RC
                    clear hS' hbad hst hnq hz hw0 g0
                    go_wp2_with (go_at_call 33; (with_reducible refine RC.out.mono ?_); rintro e u2 ⟨rfl, o'⟩; have Oa := hide (OQ.out.trans0 o'); have BXa := hide (BX3.out.only Oa.out (by simp; omega)); have x0 : u2.cell? ⟨X, 0, none⟩ = some (.int .i64 0) := BXa.out.cell 0; have y0 := BXa.out.frozen 0; have x1 : u2.cell? ⟨X, 1, none⟩ = some (.int .i64 0) := BXa.out.cell 1; have y1 := BXa.out.frozen 1; have x2 : u2.cell? ⟨X, 2, none⟩ = some (.int .i64 0) := BXa.out.cell 2; have y2 := BXa.out.frozen 2; have x3 : u2.cell? ⟨X, 3, none⟩ = some (.int .i64 0) := BXa.out.cell 3; have y3 := BXa.out.frozen 3; have x4 : u2.cell? ⟨X, 4, none⟩ = some (.int .i64 0) := BXa.out.cell 4; have y4 := BXa.out.frozen 4; clear o')
                    (try simp only [Exit.inBlock, Exit.then])
                    have BFF := (((((BXa.out).set_ 0 (.int .i64 0)).set_ 1 (.int .i64 0)).set_ 2 (.int .i64 0)).set_ 3 (.int .i64 0)).set_ 4 (.int .i64 0)
                    refine bodyPost_ret (v := .tuple #[.agg z5, .int .i64 4]) (results_cell2 Tryd.results9 rfl rfl (load24 (a := .int .i64 0) (b := .int .i64 0) (c := .int .i64 0) (d := .int .i64 0) (e := .int .i64 0) (by simpa [z5] using BFF))) rfl ⟨by rw [PB.out]; rfl, ?_⟩
                    exact ((((((((O3.out.trans Oa.out (fun x hx => .inr (by have := HLX.out; have := HX.out; simp at hx; omega))).mono (T := [X]) (by simp))).setCell (p := ⟨X, 0, none⟩) (.inl (by simp)) _).setCell (p := ⟨X, 1, none⟩) (.inl (by simp)) _).setCell (p := ⟨X, 2, none⟩) (.inl (by simp)) _).setCell (p := ⟨X, 3, none⟩) (.inl (by simp)) _).setCell (p := ⟨X, 4, none⟩) (.inl (by simp)) _).mono (fun x hx => .inr (by have := HX.out; simp at hx; omega))
                · have hbad : regR true r = none := hw0.trans (if_neg (fun h => ha h.1))
                  have PB := hide (PG.out.trans (by rw [stR_none _ _ (q + 1) (by unfold stR; rw [hst]; simp only; rw [hnq, hbad]) 3 (by omega)]))
                  have b1 : ((((bs (cutAt 32 r).1)[0]'z1).toNat : Int) != 114) = true := by rw [g0]; simp; exact fun h => ha (UInt8.toNat.inj (by have : (114 : UInt8).toNat = 114 := rfl; omega))
                  generalize bs (cutAt 32 r).1 = S at *
                  obtain ⟨S', hS'⟩ : ∃ S', bs (cutAt 32 r).2.1 = S' := ⟨_, rfl⟩
                  rw [hS'] at RC
                  clear hS' hbad hst hnq hz hw0 g0
                  go_wp2_with (go_at_call 33; (with_reducible refine RC.out.mono ?_); rintro e u2 ⟨rfl, o'⟩; have Oa := hide (OQ.out.trans0 o'); have BXa := hide (BX3.out.only Oa.out (by simp; omega)); have x0 : u2.cell? ⟨X, 0, none⟩ = some (.int .i64 0) := BXa.out.cell 0; have y0 := BXa.out.frozen 0; have x1 : u2.cell? ⟨X, 1, none⟩ = some (.int .i64 0) := BXa.out.cell 1; have y1 := BXa.out.frozen 1; have x2 : u2.cell? ⟨X, 2, none⟩ = some (.int .i64 0) := BXa.out.cell 2; have y2 := BXa.out.frozen 2; have x3 : u2.cell? ⟨X, 3, none⟩ = some (.int .i64 0) := BXa.out.cell 3; have y3 := BXa.out.frozen 3; have x4 : u2.cell? ⟨X, 4, none⟩ = some (.int .i64 0) := BXa.out.cell 4; have y4 := BXa.out.frozen 4; clear o')
                  (try simp only [Exit.inBlock, Exit.then])
                  have BFF := (((((BXa.out).set_ 0 (.int .i64 0)).set_ 1 (.int .i64 0)).set_ 2 (.int .i64 0)).set_ 3 (.int .i64 0)).set_ 4 (.int .i64 0)
                  refine bodyPost_ret (v := .tuple #[.agg z5, .int .i64 4]) (results_cell2 Tryd.results9 rfl rfl (load24 (a := .int .i64 0) (b := .int .i64 0) (c := .int .i64 0) (d := .int .i64 0) (e := .int .i64 0) (by simpa [z5] using BFF))) rfl ⟨by rw [PB.out]; rfl, ?_⟩
                  exact ((((((((O3.out.trans Oa.out (fun x hx => .inr (by have := HLX.out; have := HX.out; simp at hx; omega))).mono (T := [X]) (by simp))).setCell (p := ⟨X, 0, none⟩) (.inl (by simp)) _).setCell (p := ⟨X, 1, none⟩) (.inl (by simp)) _).setCell (p := ⟨X, 2, none⟩) (.inl (by simp)) _).setCell (p := ⟨X, 3, none⟩) (.inl (by simp)) _).setCell (p := ⟨X, 4, none⟩) (.inl (by simp)) _).mono (fun x hx => .inr (by have := HX.out; simp at hx; omega))
              · have hbad : regR true r = none := by
                  unfold regR
                  rw [if_pos rfl]
                  match hc : (cutAt 32 r).1 with
                  | [] => rfl
                  | [_] => rfl
                  | [_, _] => rw [hc] at h2; exact absurd rfl h2
                  | _ :: _ :: _ :: _ => rfl
                have hz : (bs (cutAt 32 r).1).size = (cutAt 32 r).1.length := bs_size _
                have hx := h2
                have hw0 := h2
                clear h2
                have PB := hide (PG.out.trans (by rw [stR_none _ _ (q + 1) (by unfold stR; rw [hst]; simp only; rw [hnq, hbad]) 3 (by omega)]))
                obtain ⟨S, hS⟩ : ∃ S, bs (cutAt 32 r).1 = S := ⟨_, rfl⟩
                obtain ⟨S', hS'⟩ : ∃ S', bs (cutAt 32 r).2.1 = S' := ⟨_, rfl⟩
                have hlen : ((S.size : Int) != 2) = true := by rw [← hS, hz]; simp; omega
                rw [hS, hS'] at RC
                clear hS hS' hbad hst hnq hz hx hw0
                go_wp2_with (go_at_call 33; (with_reducible refine RC.out.mono ?_); rintro e u2 ⟨rfl, o'⟩; have Oa := hide (OQ.out.trans0 o'); have BXa := hide (BX3.out.only Oa.out (by simp; omega)); have x0 : u2.cell? ⟨X, 0, none⟩ = some (.int .i64 0) := BXa.out.cell 0; have y0 := BXa.out.frozen 0; have x1 : u2.cell? ⟨X, 1, none⟩ = some (.int .i64 0) := BXa.out.cell 1; have y1 := BXa.out.frozen 1; have x2 : u2.cell? ⟨X, 2, none⟩ = some (.int .i64 0) := BXa.out.cell 2; have y2 := BXa.out.frozen 2; have x3 : u2.cell? ⟨X, 3, none⟩ = some (.int .i64 0) := BXa.out.cell 3; have y3 := BXa.out.frozen 3; have x4 : u2.cell? ⟨X, 4, none⟩ = some (.int .i64 0) := BXa.out.cell 4; have y4 := BXa.out.frozen 4; clear o')
                (try simp only [Exit.inBlock, Exit.then])
                have BFF := (((((BXa.out).set_ 0 (.int .i64 0)).set_ 1 (.int .i64 0)).set_ 2 (.int .i64 0)).set_ 3 (.int .i64 0)).set_ 4 (.int .i64 0)
                refine bodyPost_ret (v := .tuple #[.agg z5, .int .i64 4]) (results_cell2 Tryd.results9 rfl rfl (load24 (a := .int .i64 0) (b := .int .i64 0) (c := .int .i64 0) (d := .int .i64 0) (e := .int .i64 0) (by simpa [z5] using BFF))) rfl ⟨by rw [PB.out]; rfl, ?_⟩
                exact ((((((((O3.out.trans Oa.out (fun x hx => .inr (by have := HLX.out; have := HX.out; simp at hx; omega))).mono (T := [X]) (by simp))).setCell (p := ⟨X, 0, none⟩) (.inl (by simp)) _).setCell (p := ⟨X, 1, none⟩) (.inl (by simp)) _).setCell (p := ⟨X, 2, none⟩) (.inl (by simp)) _).setCell (p := ⟨X, 3, none⟩) (.inl (by simp)) _).setCell (p := ⟨X, 4, none⟩) (.inl (by simp)) _).mono (fun x hx => .inr (by have := HX.out; simp at hx; omega))
          · obtain rfl : q = 3 := by omega
            rw [hst] at PG
            replace PG := PG.out
            simp only at PG
            obtain ⟨v0, hv0⟩ : ∃ v, Lf 0 = v := ⟨_, rfl⟩
            obtain ⟨v1, hv1⟩ : ∃ v, Lf 1 = v := ⟨_, rfl⟩
            obtain ⟨v2, hv2⟩ : ∃ v, Lf 2 = v := ⟨_, rfl⟩
            rw [hv0, hv1, hv2] at PG
            replace PG := hide PG
            unfold l3 at bq
            rw [hv0, hv1, hv2] at bq
            have l0 : T.cell? ⟨L, 0, none⟩ = some (.int .i64 v0) := bq.cell 0
            have l1 : T.cell? ⟨L, 1, none⟩ = some (.int .i64 v1) := bq.cell 1
            have l2 : T.cell? ⟨L, 2, none⟩ = some (.int .i64 v2) := bq.cell 2
            have bI := BI3.out.only oq (by simp; omega)
            have BXq := hide (BX3.out.only oq (by simp; omega))
            have OQ := hide (O3.out.trans oq (fun x hx => .inr (by have := HLX.out; have := HX.out; simp at hx; omega)))
            have BIq := hide bI
            have c1 : T.cell? ⟨X + 1, 1, none⟩ = some (.int .i64 0) := bI.cell 1
            have c2 : T.cell? ⟨X + 1, 2, none⟩ = some (.int .i64 0) := bI.cell 2
            have c3 : T.cell? ⟨X + 1, 3, none⟩ = some (.int .i64 0) := bI.cell 3
            have f1 := bI.frozen 1
            have f2 := bI.frozen 2
            have f3 := bI.frozen 3
            have EQ := hide (HE.out.only OQ.out)
            clear hst hzr bq oq bI hv0 hv1 hv2 BN BL BX3 BI3 O3
            go_wp2_with fail
            go_region
            have oI : Only [X + 1] T ((((T).setCell ⟨X + 1, 1, none⟩ (.int .i64 v0)).setCell ⟨X + 1, 2, none⟩ (.int .i64 v1)).setCell ⟨X + 1, 3, none⟩ (.int .i64 v2)).drew := ((((Only.refl _ T).setCell (p := ⟨X + 1, 1, none⟩) (.inl (by simp)) _).setCell (p := ⟨X + 1, 2, none⟩) (.inl (by simp)) _).setCell (p := ⟨X + 1, 3, none⟩) (.inl (by simp)) _).drew
            have BXs := hide (BXq.out.only oI (by simp))
            have Os := hide (OQ.out.trans oI (fun x hx => .inr (by have := HX.out; simp at hx; omega)))
            have BIs := hide (show Blk ((((T).setCell ⟨X + 1, 1, none⟩ (.int .i64 v0)).setCell ⟨X + 1, 2, none⟩ (.int .i64 v1)).setCell ⟨X + 1, 3, none⟩ (.int .i64 v2)).drew (X + 1) 24 #[.int .i64 (k : Int), .int .i64 v0, .int .i64 v1, .int .i64 v2, .int .i64 0] from by simpa [I5] using ((((BIq.out.set_ 1 (.int .i64 v0)).set_ 2 (.int .i64 v1)).set_ 3 (.int .i64 v2))).drew)
            clear oI l0 l1 l2 c1 c2 c3 f1 f2 f3 BIq BXq OQ EQ
            obtain ⟨us, hus⟩ : ∃ us, ((((T).setCell ⟨X + 1, 1, none⟩ (.int .i64 v0)).setCell ⟨X + 1, 2, none⟩ (.int .i64 v1)).setCell ⟨X + 1, 3, none⟩ (.int .i64 v2)).drew = us := ⟨_, rfl⟩
            rw [hus] at BXs Os BIs ⊢
            clear hus
            have EQ := hide (HE.out.only Os.out)
            by_cases hm0 : m = 0
            · have dm : decide ((0 : Int) < (m : Nat)) = false := decide_eq_false (by omega)
              have dm2 : decide (0 < m) = false := decide_eq_false (by omega)
              obtain ⟨iv, hiv⟩ : ∃ iv : Int, 0 = iv := ⟨_, rfl⟩
              have PG2 := PG.out
              rw [hm0, show immR 0 r = 0 from rfl, hiv] at PG2
              have PG2 := hide PG2
              rw [hiv] at BIs
              have HBi := hide (show -9223372036854775808 ≤ iv ∧ iv ≤ 9223372036854775807 by omega)
              have BA := BIs
              have BY := BXs
              have EA := EQ
              have OA := Os
              have HM0 := hide hm0
              clear hm0 PG BIs BXs EQ Os hiv
              obtain ⟨ua, hua⟩ : ∃ ua, us = ua := ⟨_, rfl⟩
              rw [hua] at BA BY EA OA ⊢
              clear hua
              have MY := hide (fun W => (show Calls Tryd.prog 12 #[.agg #[.int .i64 (k : Int), .int .i64 v0, .int .i64 v1, .int .i64 v2, .int .i64 iv], .int .i64 256] W fun e w' => e = .returned (.bool (mayI ⟨k, v0, v1, v2, iv⟩ 256)) ∧ Only [] W w' from rmay_any ⟨k, v0, v1, v2, iv⟩ 256 W))
              have j0 := BA.out.cell 0
              have j1 := BA.out.cell 1
              have j2 := BA.out.cell 2
              have j3 := BA.out.cell 3
              have j4 := BA.out.cell 4
              cases hmay : mayI ⟨k, v0, v1, v2, iv⟩ 256 with
              | true =>
                rw [hmay] at MY
                have LN := hide (fun W (hE : Env W) => (show Calls Tryd.prog 13 #[.agg #[.int .i64 (k : Int), .int .i64 v0, .int .i64 v1, .int .i64 v2, .int .i64 iv]] W fun e w' => e = .returned (.string (bs (lineB ⟨k, v0, v1, v2, iv⟩))) ∧ Only [] W w' from rline_any ⟨k, v0, v1, v2, iv⟩ W hE hmay HBi.out.1 HBi.out.2))
                by_cases hln : lineB ⟨k, v0, v1, v2, iv⟩ = s
                · have hcmp : ((bs (lineB ⟨k, v0, v1, v2, iv⟩)).toList == (bs s).toList) = true := by rw [bs_eq]; simpa using hln
                  have PGF := hide (show refP s = some ⟨k, v0, v1, v2, iv⟩ by rw [PG2.out, if_pos ⟨hmay, hln⟩])
                  obtain ⟨lb, hlb⟩ : ∃ lb, bs (lineB ⟨k, v0, v1, v2, iv⟩) = lb := ⟨_, rfl⟩
                  rw [hlb] at LN hcmp
                  clear hmay hln hlb PG2
                  go_wp2_with (first
                    | (go_at_call 12; (with_reducible refine (MY.out _).mono ?_); rintro e um ⟨rfl, om⟩; have BAm := hide (BA.out.only om (by simp)); have BYm := hide (BY.out.only om (by simp)); have EAm := hide (EA.out.only om); have OAm := hide (OA.out.trans0 om); clear om j0 j1 j2 j3 j4; have j0 := BAm.out.cell 0; have j1 := BAm.out.cell 1; have j2 := BAm.out.cell 2; have j3 := BAm.out.cell 3; have j4 := BAm.out.cell 4)
                    | (go_at_call 13; (with_reducible refine (LN.out _ EAm.out).mono ?_); rintro e ul ⟨rfl, ol⟩; have BAl := hide (BAm.out.only ol (by simp)); have BYl := hide (BYm.out.only ol (by simp)); have OAl := hide (OAm.out.trans0 ol); clear ol j0 j1 j2 j3 j4; have j0 := BAl.out.cell 0; have j1 := BAl.out.cell 1; have j2 := BAl.out.cell 2; have j3 := BAl.out.cell 3; have j4 := BAl.out.cell 4; have x0 : ul.cell? ⟨X, 0, none⟩ = some (.int .i64 0) := BYl.out.cell 0; have y0 := BYl.out.frozen 0; have x1 : ul.cell? ⟨X, 1, none⟩ = some (.int .i64 0) := BYl.out.cell 1; have y1 := BYl.out.frozen 1; have x2 : ul.cell? ⟨X, 2, none⟩ = some (.int .i64 0) := BYl.out.cell 2; have y2 := BYl.out.frozen 2; have x3 : ul.cell? ⟨X, 3, none⟩ = some (.int .i64 0) := BYl.out.cell 3; have y3 := BYl.out.frozen 3; have x4 : ul.cell? ⟨X, 4, none⟩ = some (.int .i64 0) := BYl.out.cell 4; have y4 := BYl.out.frozen 4))
                  (try simp only [Exit.inBlock, Exit.then])
                  have BFF := (((((BYl.out).set_ 0 (.int .i64 (k : Int))).set_ 1 (.int .i64 v0)).set_ 2 (.int .i64 v1)).set_ 3 (.int .i64 v2)).set_ 4 (.int .i64 iv)
                  refine bodyPost_ret (v := .tuple #[.agg (insV ⟨k, v0, v1, v2, iv⟩), .int .i64 0]) (results_cell2 Tryd.results9 rfl rfl (load24 (a := .int .i64 (k : Int)) (b := .int .i64 v0) (c := .int .i64 v1) (d := .int .i64 v2) (e := .int .i64 iv) (by simpa [z5] using BFF))) rfl ⟨by rw [PGF.out]; rfl, ?_⟩
                  exact (((((((OAl.out.mono (T := [X]) (by simp))).setCell (p := ⟨X, 0, none⟩) (.inl (by simp)) _).setCell (p := ⟨X, 1, none⟩) (.inl (by simp)) _).setCell (p := ⟨X, 2, none⟩) (.inl (by simp)) _).setCell (p := ⟨X, 3, none⟩) (.inl (by simp)) _).setCell (p := ⟨X, 4, none⟩) (.inl (by simp)) _).mono (fun x hx => .inr (by have := HX.out; simp at hx; omega))
                · have hcmp : ((bs (lineB ⟨k, v0, v1, v2, iv⟩)).toList == (bs s).toList) = false := by rw [bs_eq]; simpa using hln
                  have PGF := hide (show refP s = none by rw [PG2.out, if_neg (fun h => hln h.2)])
                  obtain ⟨lb, hlb⟩ : ∃ lb, bs (lineB ⟨k, v0, v1, v2, iv⟩) = lb := ⟨_, rfl⟩
                  rw [hlb] at LN hcmp
                  clear hmay hln hlb PG2
                  go_wp2_with (first
                    | (go_at_call 12; (with_reducible refine (MY.out _).mono ?_); rintro e um ⟨rfl, om⟩; have BAm := hide (BA.out.only om (by simp)); have BYm := hide (BY.out.only om (by simp)); have EAm := hide (EA.out.only om); have OAm := hide (OA.out.trans0 om); clear om j0 j1 j2 j3 j4; have j0 := BAm.out.cell 0; have j1 := BAm.out.cell 1; have j2 := BAm.out.cell 2; have j3 := BAm.out.cell 3; have j4 := BAm.out.cell 4)
                    | (go_at_call 13; (with_reducible refine (LN.out _ EAm.out).mono ?_); rintro e ul ⟨rfl, ol⟩; have BAl := hide (BAm.out.only ol (by simp)); have BYl := hide (BYm.out.only ol (by simp)); have OAl := hide (OAm.out.trans0 ol); clear ol j0 j1 j2 j3 j4; have x0 : ul.cell? ⟨X, 0, none⟩ = some (.int .i64 0) := BYl.out.cell 0; have y0 := BYl.out.frozen 0; have x1 : ul.cell? ⟨X, 1, none⟩ = some (.int .i64 0) := BYl.out.cell 1; have y1 := BYl.out.frozen 1; have x2 : ul.cell? ⟨X, 2, none⟩ = some (.int .i64 0) := BYl.out.cell 2; have y2 := BYl.out.frozen 2; have x3 : ul.cell? ⟨X, 3, none⟩ = some (.int .i64 0) := BYl.out.cell 3; have y3 := BYl.out.frozen 3; have x4 : ul.cell? ⟨X, 4, none⟩ = some (.int .i64 0) := BYl.out.cell 4; have y4 := BYl.out.frozen 4))
                  (try simp only [Exit.inBlock, Exit.then])
                  have BFF := (((((BYl.out).set_ 0 (.int .i64 0)).set_ 1 (.int .i64 0)).set_ 2 (.int .i64 0)).set_ 3 (.int .i64 0)).set_ 4 (.int .i64 0)
                  refine bodyPost_ret (v := .tuple #[.agg z5, .int .i64 4]) (results_cell2 Tryd.results9 rfl rfl (load24 (a := .int .i64 0) (b := .int .i64 0) (c := .int .i64 0) (d := .int .i64 0) (e := .int .i64 0) (by simpa [z5] using BFF))) rfl ⟨by rw [PGF.out]; rfl, ?_⟩
                  exact (((((((OAl.out.mono (T := [X]) (by simp))).setCell (p := ⟨X, 0, none⟩) (.inl (by simp)) _).setCell (p := ⟨X, 1, none⟩) (.inl (by simp)) _).setCell (p := ⟨X, 2, none⟩) (.inl (by simp)) _).setCell (p := ⟨X, 3, none⟩) (.inl (by simp)) _).setCell (p := ⟨X, 4, none⟩) (.inl (by simp)) _).mono (fun x hx => .inr (by have := HX.out; simp at hx; omega))
              | false =>
                rw [hmay] at MY
                have PGF := hide (show refP s = none by rw [PG2.out, if_neg (fun h => by rw [hmay] at h; exact absurd h.1 (by decide))])
                clear hmay PG2
                go_wp2_with (go_at_call 12; (with_reducible refine (MY.out _).mono ?_); rintro e um ⟨rfl, om⟩; have BAm := hide (BA.out.only om (by simp)); have BYm := hide (BY.out.only om (by simp)); have EAm := hide (EA.out.only om); have OAm := hide (OA.out.trans0 om); clear om j0 j1 j2 j3 j4; have x0 : um.cell? ⟨X, 0, none⟩ = some (.int .i64 0) := BYm.out.cell 0; have y0 := BYm.out.frozen 0; have x1 : um.cell? ⟨X, 1, none⟩ = some (.int .i64 0) := BYm.out.cell 1; have y1 := BYm.out.frozen 1; have x2 : um.cell? ⟨X, 2, none⟩ = some (.int .i64 0) := BYm.out.cell 2; have y2 := BYm.out.frozen 2; have x3 : um.cell? ⟨X, 3, none⟩ = some (.int .i64 0) := BYm.out.cell 3; have y3 := BYm.out.frozen 3; have x4 : um.cell? ⟨X, 4, none⟩ = some (.int .i64 0) := BYm.out.cell 4; have y4 := BYm.out.frozen 4)
                (try simp only [Exit.inBlock, Exit.then])
                have BFF := (((((BYm.out).set_ 0 (.int .i64 0)).set_ 1 (.int .i64 0)).set_ 2 (.int .i64 0)).set_ 3 (.int .i64 0)).set_ 4 (.int .i64 0)
                refine bodyPost_ret (v := .tuple #[.agg z5, .int .i64 4]) (results_cell2 Tryd.results9 rfl rfl (load24 (a := .int .i64 0) (b := .int .i64 0) (c := .int .i64 0) (d := .int .i64 0) (e := .int .i64 0) (by simpa [z5] using BFF))) rfl ⟨by rw [PGF.out]; rfl, ?_⟩
                exact (((((((OAm.out.mono (T := [X]) (by simp))).setCell (p := ⟨X, 0, none⟩) (.inl (by simp)) _).setCell (p := ⟨X, 1, none⟩) (.inl (by simp)) _).setCell (p := ⟨X, 2, none⟩) (.inl (by simp)) _).setCell (p := ⟨X, 3, none⟩) (.inl (by simp)) _).setCell (p := ⟨X, 4, none⟩) (.inl (by simp)) _).mono (fun x hx => .inr (by have := HX.out; simp at hx; omega))
            · have dm : decide ((0 : Int) < (m : Nat)) = true := decide_eq_true (by omega)
              have dm2 : decide (0 < m) = true := decide_eq_true (by omega)
              obtain ⟨iv, hiv⟩ : ∃ iv : Int, parseV r = iv := ⟨_, rfl⟩
              have PG2 := PG.out
              rw [show immR m r = parseV r from if_pos hm0, hiv] at PG2
              have PG2 := hide PG2
              have HBi := hide (show -9223372036854775808 ≤ iv ∧ iv ≤ 9223372036854775807 by rw [← hiv]; exact parseV_bounds _)
              have PV := hide (fun W (hE : Env W) => parse_any (bs r) (by rw [bs_size]; omega) W hE)
              simp only [bs_list, hiv] at PV
              clear hm0 hiv PG
              go_wp2_with (go_at_call 32; (with_reducible refine (PV.out _ EQ.out).mono ?_); rintro e ub ⟨⟨er, rfl⟩, o'⟩; have EB := hide (EQ.out.only o'); have BIb := hide (BIs.out.only o' (by simp)); have BXb := hide (BXs.out.only o' (by simp)); have Ob := hide (Os.out.trans0 o'); have j0 := BIb.out.cell 0; have j1 := BIb.out.cell 1; have j2 := BIb.out.cell 2; have j3 := BIb.out.cell 3; have j4 := BIb.out.cell 4; have y4 := BIb.out.frozen 4; clear o')
              have oI : Only [X + 1] ub (ub.setCell ⟨X + 1, 4, none⟩ (.int .i64 iv)) := (Only.refl _ _).setCell (p := ⟨X + 1, 4, none⟩) (.inl (by simp)) _
              have BA := hide (show Blk (ub.setCell ⟨X + 1, 4, none⟩ (.int .i64 iv)) (X + 1) 24 #[.int .i64 (k : Int), .int .i64 v0, .int .i64 v1, .int .i64 v2, .int .i64 iv] from by simpa using BIb.out.set_ 4 (.int .i64 iv))
              have BY := hide (BXb.out.only oI (by simp))
              have OA := hide (Ob.out.trans oI (fun x hx => .inr (by have := HX.out; simp at hx; omega)))
              have EA := hide (HE.out.only OA.out)
              clear oI j0 j1 j2 j3 j4 y4 BIb BXb Ob EB PV BIs BXs Os EQ
              obtain ⟨ua, hua⟩ : ∃ ua, ub.setCell ⟨X + 1, 4, none⟩ (.int .i64 iv) = ua := ⟨_, rfl⟩
              rw [hua] at BA BY EA OA ⊢
              clear hua
              have MY := hide (fun W => (show Calls Tryd.prog 12 #[.agg #[.int .i64 (k : Int), .int .i64 v0, .int .i64 v1, .int .i64 v2, .int .i64 iv], .int .i64 256] W fun e w' => e = .returned (.bool (mayI ⟨k, v0, v1, v2, iv⟩ 256)) ∧ Only [] W w' from rmay_any ⟨k, v0, v1, v2, iv⟩ 256 W))
              have j0 := BA.out.cell 0
              have j1 := BA.out.cell 1
              have j2 := BA.out.cell 2
              have j3 := BA.out.cell 3
              have j4 := BA.out.cell 4
              cases hmay : mayI ⟨k, v0, v1, v2, iv⟩ 256 with
              | true =>
                rw [hmay] at MY
                have LN := hide (fun W (hE : Env W) => (show Calls Tryd.prog 13 #[.agg #[.int .i64 (k : Int), .int .i64 v0, .int .i64 v1, .int .i64 v2, .int .i64 iv]] W fun e w' => e = .returned (.string (bs (lineB ⟨k, v0, v1, v2, iv⟩))) ∧ Only [] W w' from rline_any ⟨k, v0, v1, v2, iv⟩ W hE hmay HBi.out.1 HBi.out.2))
                by_cases hln : lineB ⟨k, v0, v1, v2, iv⟩ = s
                · have hcmp : ((bs (lineB ⟨k, v0, v1, v2, iv⟩)).toList == (bs s).toList) = true := by rw [bs_eq]; simpa using hln
                  have PGF := hide (show refP s = some ⟨k, v0, v1, v2, iv⟩ by rw [PG2.out, if_pos ⟨hmay, hln⟩])
                  obtain ⟨lb, hlb⟩ : ∃ lb, bs (lineB ⟨k, v0, v1, v2, iv⟩) = lb := ⟨_, rfl⟩
                  rw [hlb] at LN hcmp
                  clear hmay hln hlb PG2
                  go_wp2_with (first
                    | (go_at_call 12; (with_reducible refine (MY.out _).mono ?_); rintro e um ⟨rfl, om⟩; have BAm := hide (BA.out.only om (by simp)); have BYm := hide (BY.out.only om (by simp)); have EAm := hide (EA.out.only om); have OAm := hide (OA.out.trans0 om); clear om j0 j1 j2 j3 j4; have j0 := BAm.out.cell 0; have j1 := BAm.out.cell 1; have j2 := BAm.out.cell 2; have j3 := BAm.out.cell 3; have j4 := BAm.out.cell 4)
                    | (go_at_call 13; (with_reducible refine (LN.out _ EAm.out).mono ?_); rintro e ul ⟨rfl, ol⟩; have BAl := hide (BAm.out.only ol (by simp)); have BYl := hide (BYm.out.only ol (by simp)); have OAl := hide (OAm.out.trans0 ol); clear ol j0 j1 j2 j3 j4; have j0 := BAl.out.cell 0; have j1 := BAl.out.cell 1; have j2 := BAl.out.cell 2; have j3 := BAl.out.cell 3; have j4 := BAl.out.cell 4; have x0 : ul.cell? ⟨X, 0, none⟩ = some (.int .i64 0) := BYl.out.cell 0; have y0 := BYl.out.frozen 0; have x1 : ul.cell? ⟨X, 1, none⟩ = some (.int .i64 0) := BYl.out.cell 1; have y1 := BYl.out.frozen 1; have x2 : ul.cell? ⟨X, 2, none⟩ = some (.int .i64 0) := BYl.out.cell 2; have y2 := BYl.out.frozen 2; have x3 : ul.cell? ⟨X, 3, none⟩ = some (.int .i64 0) := BYl.out.cell 3; have y3 := BYl.out.frozen 3; have x4 : ul.cell? ⟨X, 4, none⟩ = some (.int .i64 0) := BYl.out.cell 4; have y4 := BYl.out.frozen 4))
                  (try simp only [Exit.inBlock, Exit.then])
                  have BFF := (((((BYl.out).set_ 0 (.int .i64 (k : Int))).set_ 1 (.int .i64 v0)).set_ 2 (.int .i64 v1)).set_ 3 (.int .i64 v2)).set_ 4 (.int .i64 iv)
                  refine bodyPost_ret (v := .tuple #[.agg (insV ⟨k, v0, v1, v2, iv⟩), .int .i64 0]) (results_cell2 Tryd.results9 rfl rfl (load24 (a := .int .i64 (k : Int)) (b := .int .i64 v0) (c := .int .i64 v1) (d := .int .i64 v2) (e := .int .i64 iv) (by simpa [z5] using BFF))) rfl ⟨by rw [PGF.out]; rfl, ?_⟩
                  exact (((((((OAl.out.mono (T := [X]) (by simp))).setCell (p := ⟨X, 0, none⟩) (.inl (by simp)) _).setCell (p := ⟨X, 1, none⟩) (.inl (by simp)) _).setCell (p := ⟨X, 2, none⟩) (.inl (by simp)) _).setCell (p := ⟨X, 3, none⟩) (.inl (by simp)) _).setCell (p := ⟨X, 4, none⟩) (.inl (by simp)) _).mono (fun x hx => .inr (by have := HX.out; simp at hx; omega))
                · have hcmp : ((bs (lineB ⟨k, v0, v1, v2, iv⟩)).toList == (bs s).toList) = false := by rw [bs_eq]; simpa using hln
                  have PGF := hide (show refP s = none by rw [PG2.out, if_neg (fun h => hln h.2)])
                  obtain ⟨lb, hlb⟩ : ∃ lb, bs (lineB ⟨k, v0, v1, v2, iv⟩) = lb := ⟨_, rfl⟩
                  rw [hlb] at LN hcmp
                  clear hmay hln hlb PG2
                  go_wp2_with (first
                    | (go_at_call 12; (with_reducible refine (MY.out _).mono ?_); rintro e um ⟨rfl, om⟩; have BAm := hide (BA.out.only om (by simp)); have BYm := hide (BY.out.only om (by simp)); have EAm := hide (EA.out.only om); have OAm := hide (OA.out.trans0 om); clear om j0 j1 j2 j3 j4; have j0 := BAm.out.cell 0; have j1 := BAm.out.cell 1; have j2 := BAm.out.cell 2; have j3 := BAm.out.cell 3; have j4 := BAm.out.cell 4)
                    | (go_at_call 13; (with_reducible refine (LN.out _ EAm.out).mono ?_); rintro e ul ⟨rfl, ol⟩; have BAl := hide (BAm.out.only ol (by simp)); have BYl := hide (BYm.out.only ol (by simp)); have OAl := hide (OAm.out.trans0 ol); clear ol j0 j1 j2 j3 j4; have x0 : ul.cell? ⟨X, 0, none⟩ = some (.int .i64 0) := BYl.out.cell 0; have y0 := BYl.out.frozen 0; have x1 : ul.cell? ⟨X, 1, none⟩ = some (.int .i64 0) := BYl.out.cell 1; have y1 := BYl.out.frozen 1; have x2 : ul.cell? ⟨X, 2, none⟩ = some (.int .i64 0) := BYl.out.cell 2; have y2 := BYl.out.frozen 2; have x3 : ul.cell? ⟨X, 3, none⟩ = some (.int .i64 0) := BYl.out.cell 3; have y3 := BYl.out.frozen 3; have x4 : ul.cell? ⟨X, 4, none⟩ = some (.int .i64 0) := BYl.out.cell 4; have y4 := BYl.out.frozen 4))
                  (try simp only [Exit.inBlock, Exit.then])
                  have BFF := (((((BYl.out).set_ 0 (.int .i64 0)).set_ 1 (.int .i64 0)).set_ 2 (.int .i64 0)).set_ 3 (.int .i64 0)).set_ 4 (.int .i64 0)
                  refine bodyPost_ret (v := .tuple #[.agg z5, .int .i64 4]) (results_cell2 Tryd.results9 rfl rfl (load24 (a := .int .i64 0) (b := .int .i64 0) (c := .int .i64 0) (d := .int .i64 0) (e := .int .i64 0) (by simpa [z5] using BFF))) rfl ⟨by rw [PGF.out]; rfl, ?_⟩
                  exact (((((((OAl.out.mono (T := [X]) (by simp))).setCell (p := ⟨X, 0, none⟩) (.inl (by simp)) _).setCell (p := ⟨X, 1, none⟩) (.inl (by simp)) _).setCell (p := ⟨X, 2, none⟩) (.inl (by simp)) _).setCell (p := ⟨X, 3, none⟩) (.inl (by simp)) _).setCell (p := ⟨X, 4, none⟩) (.inl (by simp)) _).mono (fun x hx => .inr (by have := HX.out; simp at hx; omega))
              | false =>
                rw [hmay] at MY
                have PGF := hide (show refP s = none by rw [PG2.out, if_neg (fun h => by rw [hmay] at h; exact absurd h.1 (by decide))])
                clear hmay PG2
                go_wp2_with (go_at_call 12; (with_reducible refine (MY.out _).mono ?_); rintro e um ⟨rfl, om⟩; have BAm := hide (BA.out.only om (by simp)); have BYm := hide (BY.out.only om (by simp)); have EAm := hide (EA.out.only om); have OAm := hide (OA.out.trans0 om); clear om j0 j1 j2 j3 j4; have x0 : um.cell? ⟨X, 0, none⟩ = some (.int .i64 0) := BYm.out.cell 0; have y0 := BYm.out.frozen 0; have x1 : um.cell? ⟨X, 1, none⟩ = some (.int .i64 0) := BYm.out.cell 1; have y1 := BYm.out.frozen 1; have x2 : um.cell? ⟨X, 2, none⟩ = some (.int .i64 0) := BYm.out.cell 2; have y2 := BYm.out.frozen 2; have x3 : um.cell? ⟨X, 3, none⟩ = some (.int .i64 0) := BYm.out.cell 3; have y3 := BYm.out.frozen 3; have x4 : um.cell? ⟨X, 4, none⟩ = some (.int .i64 0) := BYm.out.cell 4; have y4 := BYm.out.frozen 4)
                (try simp only [Exit.inBlock, Exit.then])
                have BFF := (((((BYm.out).set_ 0 (.int .i64 0)).set_ 1 (.int .i64 0)).set_ 2 (.int .i64 0)).set_ 3 (.int .i64 0)).set_ 4 (.int .i64 0)
                refine bodyPost_ret (v := .tuple #[.agg z5, .int .i64 4]) (results_cell2 Tryd.results9 rfl rfl (load24 (a := .int .i64 0) (b := .int .i64 0) (c := .int .i64 0) (d := .int .i64 0) (e := .int .i64 0) (by simpa [z5] using BFF))) rfl ⟨by rw [PGF.out]; rfl, ?_⟩
                exact (((((((OAm.out.mono (T := [X]) (by simp))).setCell (p := ⟨X, 0, none⟩) (.inl (by simp)) _).setCell (p := ⟨X, 1, none⟩) (.inl (by simp)) _).setCell (p := ⟨X, 2, none⟩) (.inl (by simp)) _).setCell (p := ⟨X, 3, none⟩) (.inl (by simp)) _).setCell (p := ⟨X, 4, none⟩) (.inl (by simp)) _).mono (fun x hx => .inr (by have := HX.out; simp at hx; omega))
      · have NM := hide (fun W => named_bad (opAt wd) (.inl (by omega)) W)
        have PG := hide (show refP s = none by unfold refP; rw [HWD.out, if_neg (fun hc => hop (by unfold opOk at hc; simp at hc; exact hc.1))])
        have c0 : U.cell? ⟨X + 1, 0, none⟩ = some (.int .i64 (opAt wd)) := BI2.out.cell 0
        obtain ⟨o, ho⟩ : ∃ o, opAt wd = o := ⟨_, rfl⟩
        rw [ho] at NM c0 BI2
        clear ho hop
        go_wp2_with (go_at_call 35; (with_reducible refine (NM.out _).mono ?_); rintro e u1 ⟨rfl, o2⟩)
        obtain ⟨A, hA⟩ : ∃ A, u1.heap.size = A := ⟨_, rfl⟩
        have bL := Blk.new (u1.alloc (.cells #[.bool false, .bool false, .bool false] 57)) 59 #[.int .i64 0, .int .i64 0, .int .i64 0]
        have oo := (o2.alloc (.cells #[.bool false, .bool false, .bool false] 57)).alloc (.cells #[.int .i64 0, .int .i64 0, .int .i64 0] 59)
        have bX := BX2.out.only oo (by simp)
        have bI := BI2.out.only oo (by simp)
        have oV := O2.out.trans0 oo
        have hsz := oo.size
        rw [World.size_alloc, hA] at bL
        simp only [hA]
        obtain ⟨V, hV⟩ : ∃ V, (u1.alloc (.cells #[.bool false, .bool false, .bool false] 57)).alloc (.cells #[.int .i64 0, .int .i64 0, .int .i64 0] 59) = V := ⟨_, rfl⟩
        rw [hV] at bL bX bI oV ⊢
        have BL := hide bL
        have BX3 := hide bX
        have BI3 := hide bI
        have O3 := hide oV
        obtain ⟨L, hL⟩ : ∃ L, A + 1 = L := ⟨_, rfl⟩
        rw [hL] at BL ⊢
        have hA2 := HS2.out
        have ne1 : ¬ L = X + 1 := by have := o2.size; omega
        have ne2 : ¬ X + 1 = L := by omega
        clear hL hA2 hsz hV hA oo o2 bL bX bI oV c0 BX2 BI2 O2
        go_loopw [12] (fun vk wr => vk = .int .i64 0 ∧ V = wr) (fun _ _ => 0)
        case atStart => exact ⟨rfl, (by first | rfl | trivial)⟩
        case round =>
          obtain ⟨rfl, hw⟩ := hrel
          obtain rfl := hw
          have l0 : V.cell? ⟨L, 0, none⟩ = some (.int .i64 0) := BL.out.cell 0
          have l1 : V.cell? ⟨L, 1, none⟩ = some (.int .i64 0) := BL.out.cell 1
          have l2 : V.cell? ⟨L, 2, none⟩ = some (.int .i64 0) := BL.out.cell 2
          have c1 : V.cell? ⟨X + 1, 1, none⟩ = some (.int .i64 0) := BI3.out.cell 1
          have c2 : V.cell? ⟨X + 1, 2, none⟩ = some (.int .i64 0) := BI3.out.cell 2
          have c3 : V.cell? ⟨X + 1, 3, none⟩ = some (.int .i64 0) := BI3.out.cell 3
          have f1 := BI3.out.frozen 1
          have f2 := BI3.out.frozen 2
          have f3 := BI3.out.frozen 3
          go_wp2_with fail
          go_region
          have oI : Only [X + 1] V ((((V).setCell ⟨X + 1, 1, none⟩ (.int .i64 0)).setCell ⟨X + 1, 2, none⟩ (.int .i64 0)).setCell ⟨X + 1, 3, none⟩ (.int .i64 0)).drew := ((((Only.refl _ V).setCell (p := ⟨X + 1, 1, none⟩) (.inl (by simp)) _).setCell (p := ⟨X + 1, 2, none⟩) (.inl (by simp)) _).setCell (p := ⟨X + 1, 3, none⟩) (.inl (by simp)) _).drew
          have BXs := hide (BX3.out.only oI (by simp))
          have Os := hide (O3.out.trans oI (fun x hx => .inr (by have := HX.out; simp at hx; omega)))
          clear oI l0 l1 l2 c1 c2 c3 f1 f2 f3 BL BI3 BX3 O3
          obtain ⟨ua, hua⟩ : ∃ ua, ((((V).setCell ⟨X + 1, 1, none⟩ (.int .i64 0)).setCell ⟨X + 1, 2, none⟩ (.int .i64 0)).setCell ⟨X + 1, 3, none⟩ (.int .i64 0)).drew = ua := ⟨_, rfl⟩
          rw [hua] at BXs Os ⊢
          clear hua
          have x0 : ua.cell? ⟨X, 0, none⟩ = some (.int .i64 0) := BXs.out.cell 0
          have y0 := BXs.out.frozen 0
          have x1 : ua.cell? ⟨X, 1, none⟩ = some (.int .i64 0) := BXs.out.cell 1
          have y1 := BXs.out.frozen 1
          have x2 : ua.cell? ⟨X, 2, none⟩ = some (.int .i64 0) := BXs.out.cell 2
          have y2 := BXs.out.frozen 2
          have x3 : ua.cell? ⟨X, 3, none⟩ = some (.int .i64 0) := BXs.out.cell 3
          have y3 := BXs.out.frozen 3
          have x4 : ua.cell? ⟨X, 4, none⟩ = some (.int .i64 0) := BXs.out.cell 4
          have y4 := BXs.out.frozen 4
          go_wp2_with fail
          (try simp only [Exit.inBlock, Exit.then])
          have BFF := (((((BXs.out).set_ 0 (.int .i64 0)).set_ 1 (.int .i64 0)).set_ 2 (.int .i64 0)).set_ 3 (.int .i64 0)).set_ 4 (.int .i64 0)
          refine bodyPost_ret (v := .tuple #[.agg z5, .int .i64 4]) (results_cell2 Tryd.results9 rfl rfl (load24 (a := .int .i64 0) (b := .int .i64 0) (c := .int .i64 0) (d := .int .i64 0) (e := .int .i64 0) (by simpa [z5] using BFF))) rfl ⟨by rw [PG.out]; rfl, ?_⟩
          exact (((((((Os.out.mono (T := [X]) (by simp))).setCell (p := ⟨X, 0, none⟩) (.inl (by simp)) _).setCell (p := ⟨X, 1, none⟩) (.inl (by simp)) _).setCell (p := ⟨X, 2, none⟩) (.inl (by simp)) _).setCell (p := ⟨X, 3, none⟩) (.inl (by simp)) _).setCell (p := ⟨X, 4, none⟩) (.inl (by simp)) _).mono (fun x hx => .inr (by have := HX.out; simp at hx; omega))
end Go.Proofs.YtmaljajdmgkakaaDoor
