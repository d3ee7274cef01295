/- Script: CdN CdR Sx1 Sx2 Sx3 Sm5 Sx4. No condition but what each theorem says. -/
import Derived.Test.YteblhklclcjonaaGreatDoorCdM
import Derived.Test.YteblhklclcjonaaGreatDoorCdK
import Derived.BigRegion
import Derived.Deep.RegionHeld3
import Derived.Test.YteblhklclcjonaaGreatDoorCdQ
import Derived.Test.YteblhklclcjonaaGreatDoorSw3
import Derived.Test.YteblhklclcjonaaGreatDoorSh1
import Derived.Test.YteblhklclcjonaaGreatDoorStA
import Derived.Test.YteblhklclcjonaaGreatDoorSe3
import Derived.Test.YteblhklclcjonaaGreatDoorCd5
import Derived.Test.YteblhklclcjonaaGreatDoorSnM
namespace Go.Proofs.YteblhklclcjonaaGreatDoor
open Go.RowKit
set_option linter.unusedVariables false
set_option linter.all false
set_option maxRecDepth 20000

def NAMV : Array Value := #[.string (bs (nmB 0)), .string (bs (nmB 1)), .string (bs (nmB 2)), .string (bs (nmB 3)), .string (bs (nmB 4)), .string (bs (nmB 5)), .string (bs (nmB 6)), .string (bs (nmB 7)), .string (bs (nmB 8))]
theorem names_any (w : World) : Calls Tryz.prog 75 #[] w fun e w' => e = .returned (.slice (some ⟨w.heap.size, 0, none⟩) 9 9) ∧ w' = w.alloc (.cells NAMV 9) := by
  go_enter Tryz.func75, Tryz.ntmps75
  go_wp2_with fail
  go_ret
  exact ⟨rfl, rfl⟩
theorem namv_cell (W : World) (k : Nat) (hk : k < 9) : (W.alloc (.cells NAMV 9)).cell? ⟨W.heap.size, k, none⟩ = some (.string (bs (nmB k))) := by
  refine ((Blk.new W 9 NAMV).cell k).trans ?_
  rcases (by omega : k = 0 ∨ k = 1 ∨ k = 2 ∨ k = 3 ∨ k = 4 ∨ k = 5 ∨ k = 6 ∨ k = 7 ∨ k = 8) with h | h | h | h | h | h | h | h | h
  all_goals (subst h; rfl)
theorem bs_app (a b : List UInt8) : bs a ++ bs b = bs (a ++ b) := by
  apply ByteArray.ext
  simp [bs, ByteArray.data_append]
def accL (s : List UInt8) (n : Nat → Bool) (l : Nat → Int) : Nat → List UInt8
  | 0 => s
  | q + 1 => accL s n l q ++ regB (n q) (l q)
theorem accL_len (s : List UInt8) (n : Nat → Bool) (l : Nat → Int) : ∀ q, (accL s n l q).length ≤ s.length + 30 * q
  | 0 => by simp [accL]
  | q + 1 => by
    have := accL_len s n l q
    have h2 := itoaF_len (l q)
    unfold accL regB
    split <;> simp <;> omega
theorem lineB_acc (i : Ins) (k : Nat) (hk : i.op = k) : lineB i = accL (nmB k) (nB (shp k).d (shp k).a (shp k).b) (lB i.d i.a i.b) 3 ++ (if (shp k).imm ≠ 0 then 32 :: itoaF i.imm else []) := by
  unfold lineB
  rw [hk, Int.toNat_natCast]
  simp [accL, nB, lB, List.append_assoc]
set_option maxHeartbeats 8000000 in
theorem rline_any (i : Ins) (w : World) (he : Env w) (hm : mayI i 256 = true) (h0 : -9223372036854775808 ≤ i.imm) (h1 : i.imm ≤ 9223372036854775807) : Calls Tryz.prog 50 #[.agg (insV i)] w fun e w' => e = .returned (.string (bs (lineB i))) ∧ Only [] w w' := by
  obtain ⟨⟨p0, p1⟩, hd, ha, hb, -⟩ := mayI_parts hm
  obtain ⟨k, hk⟩ : ∃ k : Nat, i.op = k := ⟨i.op.toNat, by omega⟩
  have hk9 : k < 9 := by omega
  rw [hk, Int.toNat_natCast] at hd ha hb
  rw [lineB_acc i k hk]
  obtain ⟨o, d, a, b, imm⟩ := i
  simp only at hk hd ha hb h0 h1 ⊢
  subst hk
  have hg : ∀ q, q < 3 → nB (shp k).d (shp k).a (shp k).b q = true → 0 ≤ lB d a b q ∧ lB d a b q < 100 := by
    intro q hq hn
    unfold regOk at hd ha hb
    rcases (by omega : q = 0 ∨ q = 1 ∨ q = 2) with h | h | h
    · subst h; simp [nB] at hn; simp [hn] at hd; simp [lB]; omega
    · subst h; simp [nB] at hn; simp [hn] at ha; simp [lB]; omega
    · subst h; simp [nB] at hn; simp [hn] at hb; simp [lB]; omega
  have NM := fun W => named_ok k hk9 W
  unfold namV at NM
  have hlen := fun q => accL_len (nmB k) (nB (shp k).d (shp k).a (shp k).b) (lB d a b) q
  have hnl := (nm_blank k).2.2
  obtain ⟨nm, hnm⟩ : ∃ nm, nmB k = nm := ⟨_, rfl⟩
  have NC := hide (fun (W : World) => (namv_cell W k hk9).trans (by rw [hnm]))
  obtain ⟨sd, hsd⟩ : ∃ d, (shp k).d = d := ⟨_, rfl⟩
  obtain ⟨sa, hsa⟩ : ∃ d, (shp k).a = d := ⟨_, rfl⟩
  obtain ⟨sb, hsb⟩ : ∃ d, (shp k).b = d := ⟨_, rfl⟩
  obtain ⟨m, hmm⟩ : ∃ m, (shp k).imm = m := ⟨_, rfl⟩
  rw [hsd, hsa, hsb, hmm] at NM
  simp only [hsd, hsa, hsb, hmm, hnm] at hg hlen ⊢
  rw [hnm] at hnl
  have HG := hide hg
  have HL := hide hlen
  have HE := hide he
  have NM := hide NM
  clear hsd hsa hsb hmm hnm hd ha hb hm p0 p1 hg hlen he
  have b1 := Blk.new w 99 (insV ⟨k, d, a, b, imm⟩)
  have o1 := (Only.refl [] w).alloc (.cells (insV ⟨k, d, a, b, imm⟩) 99)
  unfold insV at b1 o1 ⊢
  have x0 := b1.cell 0
  have B1 := hide b1
  have O1 := hide o1
  simp only at x0
  clear b1 o1
  go_enter Tryz.func50, Tryz.ntmps50
  go_wp2_with (go_at_call 74; (with_reducible refine (NM.out _).mono ?_); rintro e u1 ⟨rfl, o2⟩; have b2 := (B1.out.only o2 (by simp)).alloc (.cells #[.bool sd, .bool sa, .bool sb] 127); have O2 := hide (O1.out.trans0 o2); have B2 := hide b2; clear x0 o2 b2 B1 O1)
  obtain ⟨X, hX⟩ : ∃ X, w.heap.size = X := ⟨_, rfl⟩
  obtain ⟨Y, hY⟩ : ∃ Y, u1.heap.size = Y := ⟨_, rfl⟩
  have bN := Blk.new u1 127 #[.bool sd, .bool sa, .bool sb]
  have bI := B2.out
  have o3 := O2.out.alloc (.cells #[.bool sd, .bool sa, .bool sb] 127)
  rw [hY] at bN
  simp only [hX, hY] at bI ⊢
  obtain ⟨V, hV⟩ : ∃ V, u1.alloc (.cells #[.bool sd, .bool sa, .bool sb] 127) = V := ⟨_, rfl⟩
  rw [hV] at bN bI o3 ⊢
  have BN := hide bN
  have BI := hide bI
  have O3 := hide o3
  have q0 := bI.cell 0
  clear hV hX hY bN bI o3 B2 O2
  have j0 : (0 : Int) ≤ (k : Int) := by omega
  have j1 : (k : Int) < 9 := by omega
  refine wp_region_held_drew (S := (fun U1 => Only [] V U1)) (by kernel_rfl) ((Only.refl _ V).drew) (fun hHeld => ?_)
  revert hHeld
  generalize V.drew = u0
  intro hHeld
  refine wpAnyH_take (i := 1) (oi := ⟨some 17, _, _, _, _, _⟩) (v := ?vn1) rfl (by kernel_rfl) (by kernel_rfl) (by kernel_rfl) (fun _ _ _ h => h) (Or.inl ⟨by rfl, ?hyn1⟩) (by assumption) ?restn1
  case hyn1 => (intro V hSw; (try dsimp only at hSw); go_simp; first | done | (with_reducible rfl))
  try simp only [Act.put, List.setIfInBounds_toArray, List.set_cons_zero, List.set_cons_succ]
  refine wpAnyH_take (i := 2) (oi := ⟨some 18, _, _, _, _, _⟩) (v := ?vn2) rfl (by kernel_rfl) (by kernel_rfl) (by kernel_rfl) (fun _ _ _ h => h) (Or.inl ⟨by rfl, ?hyn2⟩) (by assumption) ?restn2
  case hyn2 => (intro V hSw; (try dsimp only at hSw); have z := (BI.out.only hSw (by simp)).cell 0; go_simp; first | done | (with_reducible rfl))
  try simp only [Act.put, List.setIfInBounds_toArray, List.set_cons_zero, List.set_cons_succ]
  refine wpAnyH_ready (rs := [0]) (by kernel_rfl) (by simp) ?_
  refine AllReadyH.cons (o := ⟨some 16, _, _, _, _, _⟩) rfl (fun K hK => ?_) (AllReadyH.nil)
  rw [if_pos (by rfl)]
  go_simp
  (with_reducible refine (names_any _).mono ?_); rintro e u2 ⟨rfl, hu⟩; have nc := NC.out u0; rw [← hu] at nc; have OS := hide (show Only [] V u2 from by rw [hu]; exact (show Only [] V u0 from hHeld).alloc _); clear hu
  try dsimp only
  refine hK.out _ _ (OS.out) (fun hHeld => ?_)
  clear hK K
  try simp only [Act.put, List.setIfInBounds_toArray, List.set_cons_zero, List.set_cons_succ]
  refine wpAnyH_take (i := 3) (oi := ⟨some 19, _, _, _, _, _⟩) (v := ?vn3) rfl (by kernel_rfl) (by kernel_rfl) (by kernel_rfl) (fun _ _ _ h => h) (Or.inl ⟨by rfl, ?hyn3⟩) (by assumption) ?restn3
  case hyn3 => (intro V hSw; (try dsimp only at hSw); go_simp; first | done | (with_reducible rfl))
  try simp only [Act.put, List.setIfInBounds_toArray, List.set_cons_zero, List.set_cons_succ]
  refine wpAnyH_ready (rs := [4]) (by kernel_rfl) (by simp) ?_
  refine AllReadyH.cons (o := ⟨some 20, _, _, _, _, _⟩) rfl (fun K hK => ?_) (AllReadyH.nil)
  rw [if_pos (by rfl)]
  go_simp
  try dsimp only
  refine hK.out _ _ (OS.out) (fun hHeld => ?_)
  clear hK K
  try simp only [Act.put, List.setIfInBounds_toArray, List.set_cons_zero, List.set_cons_succ]
  refine wpAnyH_take (i := 5) (oi := ⟨some 6, _, _, _, _, _⟩) (v := ?vn4) rfl (by kernel_rfl) (by kernel_rfl) (by kernel_rfl) (fun _ _ _ h => h) (Or.inl ⟨by rfl, ?hyn4⟩) (by assumption) ?restn4
  case hyn4 => (intro V hSw; (try dsimp only at hSw); go_simp; first | done | (with_reducible rfl))
  try simp only [Act.put, List.setIfInBounds_toArray, List.set_cons_zero, List.set_cons_succ]
  refine wpAnyH_done (by kernel_rfl) ?_ _
  have BI2 := hide (BI.out.only OS.out (by simp))
  have BN2 := hide (BN.out.only OS.out (by simp))
  have O4 := hide (O3.out.trans0 OS.out)
  have i1 := BI2.out.cell 1
  have i2 := BI2.out.cell 2
  have i3 := BI2.out.cell 3
  clear hHeld OS nc q0 BI BN O3 NC
  go_wp2_with fail
  obtain ⟨Z, hZ⟩ : ∃ Z, u2.heap.size = Z := ⟨_, rfl⟩
  have bL := Blk.new u2 111 #[.int .i64 d, .int .i64 a, .int .i64 b]
  have bN := BN2.out.alloc (.cells #[.int .i64 d, .int .i64 a, .int .i64 b] 111)
  have bI := BI2.out.alloc (.cells #[.int .i64 d, .int .i64 a, .int .i64 b] 111)
  have o4 := O4.out.alloc (.cells #[.int .i64 d, .int .i64 a, .int .i64 b] 111)
  rw [hZ] at bL ⊢
  obtain ⟨U, hU⟩ : ∃ U, u2.alloc (.cells #[.int .i64 d, .int .i64 a, .int .i64 b] 111) = U := ⟨_, rfl⟩
  rw [hU] at bL bN bI o4 ⊢
  have CN := hide (fun q (hq : q < 3) => (bN.cell q).trans (nB_get sd sa sb q hq))
  have CL := hide (fun q (hq : q < 3) => (bL.cell q).trans (lB_get d a b q hq))
  have BI := hide bI
  have OU := hide o4
  clear hU hZ bL bN bI o4 i1 i2 i3 BI2 BN2 O4
  go_loopw [6, 8] (fun vs vi wr => ∃ q : Nat, q ≤ 3 ∧ vi = .int .i64 q ∧ vs = .string (bs (accL nm (nB sd sa sb) (lB d a b) q)) ∧ U = wr) (fun _ vi _ => 3 - (intOf vi).toNat)
  case atStart => exact ⟨0, by omega, rfl, rfl, (by first | rfl | trivial)⟩
  case round =>
    obtain ⟨q, hq, rfl, rfl, hw⟩ := hrel
    obtain rfl := hw
    by_cases hq3 : q < 3
    · have cN := CN.out q hq3
      have cL := CL.out q hq3
      have hst : accL nm (nB sd sa sb) (lB d a b) (q + 1) = accL nm (nB sd sa sb) (lB d a b) q ++ regB (nB sd sa sb q) (lB d a b q) := rfl
      have hgq := HG.out q hq3
      have hlq := HL.out q
      obtain ⟨nq, hnq⟩ : ∃ nq, nB sd sa sb q = nq := ⟨_, rfl⟩
      obtain ⟨lq, hlq'⟩ : ∃ lq, lB d a b q = lq := ⟨_, rfl⟩
      obtain ⟨ac, hac⟩ : ∃ ac, accL nm (nB sd sa sb) (lB d a b) q = ac := ⟨_, rfl⟩
      rw [hnq, hlq', hac] at hst
      rw [hnq, hlq'] at hgq
      rw [hac] at hlq
      rw [hnq] at cN
      rw [hlq'] at cL
      rw [hac]
      have HST := hide hst
      have j0 : (q : Int) < 3 := by omega
      have j1 : (0 : Int) ≤ (q : Int) := by omega
      clear hnq hlq' hst hac CN CL
      cases nq
      · go_wp2_with fail
        go_roundw
        case rel => exact ⟨q + 1, by omega, by go_num, by rw [HST.out]; simp [regB], (by first | rfl | trivial)⟩
        case measure => simp [intOf]; omega
      · obtain ⟨g0, g1⟩ := hgq rfl
        have IT := hide (itoa_any lq g0 g1)
        have es1 : bs ac ++ (⟨#[32, 114]⟩ : ByteArray) = bs (ac ++ [32, 114]) := bs_app ac [32, 114]
        have es2 : bs (ac ++ [32, 114]) ++ (⟨(itoaF lq).toArray⟩ : ByteArray) = bs (ac ++ regB true lq) := by
          rw [show (⟨(itoaF lq).toArray⟩ : ByteArray) = bs (itoaF lq) from rfl, bs_app]; simp [regB]
        have hil := itoaF_len lq
        have z1 : ¬ 9223372036854775807 < (bs ac).size + (⟨#[32, 114]⟩ : ByteArray).size := by rw [bs_size, show (⟨#[32, 114]⟩ : ByteArray).size = 2 from rfl]; omega
        have z2 : ¬ 9223372036854775807 < (bs (ac ++ [32, 114])).size + (⟨(itoaF lq).toArray⟩ : ByteArray).size := by
          rw [bs_size, show (⟨(itoaF lq).toArray⟩ : ByteArray) = bs (itoaF lq) from rfl, bs_size]; simp; omega
        obtain ⟨s1, hs1⟩ : ∃ s1, bs (ac ++ [32, 114]) = s1 := ⟨_, rfl⟩
        obtain ⟨s2, hs2⟩ : ∃ s2, bs (ac ++ regB true lq) = s2 := ⟨_, rfl⟩
        obtain ⟨si, hsi⟩ : ∃ si, (⟨(itoaF lq).toArray⟩ : ByteArray) = si := ⟨_, rfl⟩
        obtain ⟨s0, hs0⟩ : ∃ s0, bs ac = s0 := ⟨_, rfl⟩
        rw [hs1, hs0] at es1
        rw [hs1, hs2, hsi] at es2
        rw [hs0] at z1 ⊢
        rw [hs1, hsi] at z2
        rw [hsi] at IT
        have HS2 := hide hs2
        clear hs1 hs2 hsi hs0 hil g0 g1 hgq
        go_wp2_with (go_at_call 31; (with_reducible refine (IT.out _).mono ?_); rintro e w1 ⟨rfl, rfl⟩)
        go_roundw
        case rel => exact ⟨q + 1, by omega, by go_num, by rw [HST.out, HS2.out], (by first | rfl | trivial)⟩
        case measure => simp [intOf]; omega
    · obtain rfl : q = 3 := by omega
      have hl3 := HL.out 3
      obtain ⟨ac, hac⟩ : ∃ ac, accL nm (nB sd sa sb) (lB d a b) 3 = ac := ⟨_, rfl⟩
      rw [hac] at hl3 ⊢
      have HAC := hide hac
      clear hac CN CL HG HL
      by_cases hm0 : m = 0
      · have e0 : decide ((0 : Int) < (m : Nat)) = false := decide_eq_false (by omega)
        have e1 : decide (0 < m) = false := decide_eq_false (by omega)
        go_wp2_with fail
        go_ret
        refine ⟨by rw [HAC.out]; simp [hm0], OU.out⟩
      · have e0 : decide ((0 : Int) < (m : Nat)) = true := decide_eq_true (by omega)
        have e1 : decide (0 < m) = true := decide_eq_true (by omega)
        have FM := hide (fun W (h : Env W) => fmt_any imm h0 h1 W h)
        have hE := hide (HE.out.only OU.out)
        have i4 := BI.out.cell 4
        have hil := itoaF_len imm
        have es1 : bs ac ++ (⟨#[32]⟩ : ByteArray) = bs (ac ++ [32]) := bs_app ac [32]
        have es2 : bs (ac ++ [32]) ++ (⟨(itoaF imm).toArray⟩ : ByteArray) = bs (ac ++ 32 :: itoaF imm) := by
          rw [show (⟨(itoaF imm).toArray⟩ : ByteArray) = bs (itoaF imm) from rfl, bs_app]; simp
        have z1 : ¬ 9223372036854775807 < (bs ac).size + (⟨#[32]⟩ : ByteArray).size := by rw [bs_size, show (⟨#[32]⟩ : ByteArray).size = 1 from rfl]; omega
        have z2 : ¬ 9223372036854775807 < (bs (ac ++ [32])).size + (⟨(itoaF imm).toArray⟩ : ByteArray).size := by
          rw [bs_size, show (⟨(itoaF imm).toArray⟩ : ByteArray) = bs (itoaF imm) from rfl, bs_size]; simp; omega
        obtain ⟨s1, hs1⟩ : ∃ s1, bs (ac ++ [32]) = s1 := ⟨_, rfl⟩
        obtain ⟨s2, hs2⟩ : ∃ s2, bs (ac ++ 32 :: itoaF imm) = s2 := ⟨_, rfl⟩
        obtain ⟨si, hsi⟩ : ∃ si, (⟨(itoaF imm).toArray⟩ : ByteArray) = si := ⟨_, rfl⟩
        obtain ⟨s0, hs0⟩ : ∃ s0, bs ac = s0 := ⟨_, rfl⟩
        rw [hs1, hs0] at es1
        rw [hs1, hs2, hsi] at es2
        rw [hs0] at z1 ⊢
        rw [hs1, hsi] at z2
        rw [hsi] at FM
        have HS2 := hide hs2
        have HM := hide hm0
        clear hs1 hs2 hsi hs0 hil hm0
        go_wp2_with (go_at_call 76; (with_reducible refine (FM.out _ hE.out).mono ?_); rintro e w1 ⟨rfl, o'⟩)
        go_ret
        refine ⟨?_, OU.out.trans0 o'⟩
        rw [HAC.out]
        rw [HS2.out]
        try rfl
end Go.Proofs.YteblhklclcjonaaGreatDoor
namespace Go.Proofs.YteblhklclcjonaaGreatDoor
open Go.RowKit
set_option linter.unusedVariables false
set_option linter.all false
set_option maxRecDepth 20000

set_option maxHeartbeats 8000000 in
theorem rcj0 (J : Jb) (w : World)  (h0 : J.t < 1) : Calls Tryz.prog 47 #[.agg (jobV J)] w fun e w' => e = .returned (.int .i64 (jobE J)) ∧ Only [] w w' := by
  have hE := hide (jobE_row (J := J) (q := 0) (by omega) (.inl (show J.t < 1 from h0)))
  have b1 := Blk.new w 52 (jobV J)
  have o1 := (Only.refl [] w).alloc (.cells (jobV J) 52)
  unfold jobV at b1 o1
  unfold jobV
  have x0 := b1.cell 0
  have x1 := b1.cell 1
  have x2 := b1.cell 2
  have x3 := b1.cell 3
  have x4 := b1.cell 4
  have x5 := b1.cell 5
  have x6 := b1.cell 6
  have x7 := b1.cell 7
  have B1 := hide b1
  have O1 := hide o1
  clear b1 o1
  have d0 : decide (J.t < 1) = true := decide_eq_true h0
  clear h0
  go_enter Tryz.func47, Tryz.ntmps47
  go_wp2_with fail
  go_ret
  exact ⟨by rw [hE.out]; rfl, O1.out⟩

set_option maxHeartbeats 8000000 in
theorem rcj1 (J : Jb) (w : World) (h0 : ¬ (J.t < 1)) (h1 : 16 < J.t) : Calls Tryz.prog 47 #[.agg (jobV J)] w fun e w' => e = .returned (.int .i64 (jobE J)) ∧ Only [] w w' := by
  have hE := hide (jobE_row (J := J) (q := 0) (by omega) (.inr (show 16 < J.t from h1)))
  have b1 := Blk.new w 52 (jobV J)
  have o1 := (Only.refl [] w).alloc (.cells (jobV J) 52)
  unfold jobV at b1 o1
  unfold jobV
  have x0 := b1.cell 0
  have x1 := b1.cell 1
  have x2 := b1.cell 2
  have x3 := b1.cell 3
  have x4 := b1.cell 4
  have x5 := b1.cell 5
  have x6 := b1.cell 6
  have x7 := b1.cell 7
  have B1 := hide b1
  have O1 := hide o1
  clear b1 o1
  have d0 : decide (J.t < 1) = false := decide_eq_false h0
  have d1 : decide (16 < J.t) = true := decide_eq_true h1
  clear h0 h1
  go_enter Tryz.func47, Tryz.ntmps47
  go_wp2_with fail
  go_ret
  exact ⟨by rw [hE.out]; rfl, O1.out⟩

set_option maxHeartbeats 8000000 in
theorem rcj2 (J : Jb) (w : World) (h0 : ¬ (J.t < 1)) (h1 : ¬ (16 < J.t)) (h2 : J.o < 1) : Calls Tryz.prog 47 #[.agg (jobV J)] w fun e w' => e = .returned (.int .i64 (jobE J)) ∧ Only [] w w' := by
  have hE := hide (jobE_row (J := J) (q := 1) (by omega) (.inl (show J.o < 1 from h2)))
  have b1 := Blk.new w 52 (jobV J)
  have o1 := (Only.refl [] w).alloc (.cells (jobV J) 52)
  unfold jobV at b1 o1
  unfold jobV
  have x0 := b1.cell 0
  have x1 := b1.cell 1
  have x2 := b1.cell 2
  have x3 := b1.cell 3
  have x4 := b1.cell 4
  have x5 := b1.cell 5
  have x6 := b1.cell 6
  have x7 := b1.cell 7
  have B1 := hide b1
  have O1 := hide o1
  clear b1 o1
  have d0 : decide (J.t < 1) = false := decide_eq_false h0
  have d1 : decide (16 < J.t) = false := decide_eq_false h1
  have d2 : decide (J.o < 1) = true := decide_eq_true h2
  clear h0 h1 h2
  go_enter Tryz.func47, Tryz.ntmps47
  go_wp2_with fail
  go_ret
  exact ⟨by rw [hE.out]; rfl, O1.out⟩

set_option maxHeartbeats 8000000 in
theorem rcj3 (J : Jb) (w : World) (h0 : ¬ (J.t < 1)) (h1 : ¬ (16 < J.t)) (h2 : ¬ (J.o < 1)) (h3 : 8 < J.o) : Calls Tryz.prog 47 #[.agg (jobV J)] w fun e w' => e = .returned (.int .i64 (jobE J)) ∧ Only [] w w' := by
  have hE := hide (jobE_row (J := J) (q := 1) (by omega) (.inr (show 8 < J.o from h3)))
  have b1 := Blk.new w 52 (jobV J)
  have o1 := (Only.refl [] w).alloc (.cells (jobV J) 52)
  unfold jobV at b1 o1
  unfold jobV
  have x0 := b1.cell 0
  have x1 := b1.cell 1
  have x2 := b1.cell 2
  have x3 := b1.cell 3
  have x4 := b1.cell 4
  have x5 := b1.cell 5
  have x6 := b1.cell 6
  have x7 := b1.cell 7
  have B1 := hide b1
  have O1 := hide o1
  clear b1 o1
  have d0 : decide (J.t < 1) = false := decide_eq_false h0
  have d1 : decide (16 < J.t) = false := decide_eq_false h1
  have d2 : decide (J.o < 1) = false := decide_eq_false h2
  have d3 : decide (8 < J.o) = true := decide_eq_true h3
  clear h0 h1 h2 h3
  go_enter Tryz.func47, Tryz.ntmps47
  go_wp2_with fail
  go_ret
  exact ⟨by rw [hE.out]; rfl, O1.out⟩

set_option maxHeartbeats 8000000 in
theorem rcj4 (J : Jb) (w : World) (h0 : ¬ (J.t < 1)) (h1 : ¬ (16 < J.t)) (h2 : ¬ (J.o < 1)) (h3 : ¬ (8 < J.o)) (h4 : J.s < 1) : Calls Tryz.prog 47 #[.agg (jobV J)] w fun e w' => e = .returned (.int .i64 (jobE J)) ∧ Only [] w w' := by
  have hE := hide (jobE_row (J := J) (q := 2) (by omega) (.inl (show J.s < 1 from h4)))
  have b1 := Blk.new w 52 (jobV J)
  have o1 := (Only.refl [] w).alloc (.cells (jobV J) 52)
  unfold jobV at b1 o1
  unfold jobV
  have x0 := b1.cell 0
  have x1 := b1.cell 1
  have x2 := b1.cell 2
  have x3 := b1.cell 3
  have x4 := b1.cell 4
  have x5 := b1.cell 5
  have x6 := b1.cell 6
  have x7 := b1.cell 7
  have B1 := hide b1
  have O1 := hide o1
  clear b1 o1
  have d0 : decide (J.t < 1) = false := decide_eq_false h0
  have d1 : decide (16 < J.t) = false := decide_eq_false h1
  have d2 : decide (J.o < 1) = false := decide_eq_false h2
  have d3 : decide (8 < J.o) = false := decide_eq_false h3
  have d4 : decide (J.s < 1) = true := decide_eq_true h4
  clear h0 h1 h2 h3 h4
  go_enter Tryz.func47, Tryz.ntmps47
  go_wp2_with fail
  go_ret
  exact ⟨by rw [hE.out]; rfl, O1.out⟩

set_option maxHeartbeats 8000000 in
theorem rcj5 (J : Jb) (w : World) (h0 : ¬ (J.t < 1)) (h1 : ¬ (16 < J.t)) (h2 : ¬ (J.o < 1)) (h3 : ¬ (8 < J.o)) (h4 : ¬ (J.s < 1)) (h5 : 32 < J.s) : Calls Tryz.prog 47 #[.agg (jobV J)] w fun e w' => e = .returned (.int .i64 (jobE J)) ∧ Only [] w w' := by
  have hE := hide (jobE_row (J := J) (q := 2) (by omega) (.inr (show 32 < J.s from h5)))
  have b1 := Blk.new w 52 (jobV J)
  have o1 := (Only.refl [] w).alloc (.cells (jobV J) 52)
  unfold jobV at b1 o1
  unfold jobV
  have x0 := b1.cell 0
  have x1 := b1.cell 1
  have x2 := b1.cell 2
  have x3 := b1.cell 3
  have x4 := b1.cell 4
  have x5 := b1.cell 5
  have x6 := b1.cell 6
  have x7 := b1.cell 7
  have B1 := hide b1
  have O1 := hide o1
  clear b1 o1
  have d0 : decide (J.t < 1) = false := decide_eq_false h0
  have d1 : decide (16 < J.t) = false := decide_eq_false h1
  have d2 : decide (J.o < 1) = false := decide_eq_false h2
  have d3 : decide (8 < J.o) = false := decide_eq_false h3
  have d4 : decide (J.s < 1) = false := decide_eq_false h4
  have d5 : decide (32 < J.s) = true := decide_eq_true h5
  clear h0 h1 h2 h3 h4 h5
  go_enter Tryz.func47, Tryz.ntmps47
  go_wp2_with fail
  go_ret
  exact ⟨by rw [hE.out]; rfl, O1.out⟩

set_option maxHeartbeats 8000000 in
theorem rcj6 (J : Jb) (w : World) (h0 : ¬ (J.t < 1)) (h1 : ¬ (16 < J.t)) (h2 : ¬ (J.o < 1)) (h3 : ¬ (8 < J.o)) (h4 : ¬ (J.s < 1)) (h5 : ¬ (32 < J.s)) (h6 : J.q < 1) : Calls Tryz.prog 47 #[.agg (jobV J)] w fun e w' => e = .returned (.int .i64 (jobE J)) ∧ Only [] w w' := by
  have hE := hide (jobE_row (J := J) (q := 3) (by omega) (.inl (show J.q < 1 from h6)))
  have b1 := Blk.new w 52 (jobV J)
  have o1 := (Only.refl [] w).alloc (.cells (jobV J) 52)
  unfold jobV at b1 o1
  unfold jobV
  have x0 := b1.cell 0
  have x1 := b1.cell 1
  have x2 := b1.cell 2
  have x3 := b1.cell 3
  have x4 := b1.cell 4
  have x5 := b1.cell 5
  have x6 := b1.cell 6
  have x7 := b1.cell 7
  have B1 := hide b1
  have O1 := hide o1
  clear b1 o1
  have d0 : decide (J.t < 1) = false := decide_eq_false h0
  have d1 : decide (16 < J.t) = false := decide_eq_false h1
  have d2 : decide (J.o < 1) = false := decide_eq_false h2
  have d3 : decide (8 < J.o) = false := decide_eq_false h3
  have d4 : decide (J.s < 1) = false := decide_eq_false h4
  have d5 : decide (32 < J.s) = false := decide_eq_false h5
  have d6 : decide (J.q < 1) = true := decide_eq_true h6
  clear h0 h1 h2 h3 h4 h5 h6
  go_enter Tryz.func47, Tryz.ntmps47
  go_wp2_with fail
  go_ret
  exact ⟨by rw [hE.out]; rfl, O1.out⟩

set_option maxHeartbeats 8000000 in
theorem rcj7 (J : Jb) (w : World) (h0 : ¬ (J.t < 1)) (h1 : ¬ (16 < J.t)) (h2 : ¬ (J.o < 1)) (h3 : ¬ (8 < J.o)) (h4 : ¬ (J.s < 1)) (h5 : ¬ (32 < J.s)) (h6 : ¬ (J.q < 1)) (h7 : 100 < J.q) : Calls Tryz.prog 47 #[.agg (jobV J)] w fun e w' => e = .returned (.int .i64 (jobE J)) ∧ Only [] w w' := by
  have hE := hide (jobE_row (J := J) (q := 3) (by omega) (.inr (show 100 < J.q from h7)))
  have b1 := Blk.new w 52 (jobV J)
  have o1 := (Only.refl [] w).alloc (.cells (jobV J) 52)
  unfold jobV at b1 o1
  unfold jobV
  have x0 := b1.cell 0
  have x1 := b1.cell 1
  have x2 := b1.cell 2
  have x3 := b1.cell 3
  have x4 := b1.cell 4
  have x5 := b1.cell 5
  have x6 := b1.cell 6
  have x7 := b1.cell 7
  have B1 := hide b1
  have O1 := hide o1
  clear b1 o1
  have d0 : decide (J.t < 1) = false := decide_eq_false h0
  have d1 : decide (16 < J.t) = false := decide_eq_false h1
  have d2 : decide (J.o < 1) = false := decide_eq_false h2
  have d3 : decide (8 < J.o) = false := decide_eq_false h3
  have d4 : decide (J.s < 1) = false := decide_eq_false h4
  have d5 : decide (32 < J.s) = false := decide_eq_false h5
  have d6 : decide (J.q < 1) = false := decide_eq_false h6
  have d7 : decide (100 < J.q) = true := decide_eq_true h7
  clear h0 h1 h2 h3 h4 h5 h6 h7
  go_enter Tryz.func47, Tryz.ntmps47
  go_wp2_with fail
  go_ret
  exact ⟨by rw [hE.out]; rfl, O1.out⟩

set_option maxHeartbeats 8000000 in
theorem rcj8 (J : Jb) (w : World) (h0 : ¬ (J.t < 1)) (h1 : ¬ (16 < J.t)) (h2 : ¬ (J.o < 1)) (h3 : ¬ (8 < J.o)) (h4 : ¬ (J.s < 1)) (h5 : ¬ (32 < J.s)) (h6 : ¬ (J.q < 1)) (h7 : ¬ (100 < J.q)) (h8 : J.m < 256) : Calls Tryz.prog 47 #[.agg (jobV J)] w fun e w' => e = .returned (.int .i64 (jobE J)) ∧ Only [] w w' := by
  have hE := hide (jobE_row (J := J) (q := 4) (by omega) (.inl (show J.m < 256 from h8)))
  have b1 := Blk.new w 52 (jobV J)
  have o1 := (Only.refl [] w).alloc (.cells (jobV J) 52)
  unfold jobV at b1 o1
  unfold jobV
  have x0 := b1.cell 0
  have x1 := b1.cell 1
  have x2 := b1.cell 2
  have x3 := b1.cell 3
  have x4 := b1.cell 4
  have x5 := b1.cell 5
  have x6 := b1.cell 6
  have x7 := b1.cell 7
  have B1 := hide b1
  have O1 := hide o1
  clear b1 o1
  have d0 : decide (J.t < 1) = false := decide_eq_false h0
  have d1 : decide (16 < J.t) = false := decide_eq_false h1
  have d2 : decide (J.o < 1) = false := decide_eq_false h2
  have d3 : decide (8 < J.o) = false := decide_eq_false h3
  have d4 : decide (J.s < 1) = false := decide_eq_false h4
  have d5 : decide (32 < J.s) = false := decide_eq_false h5
  have d6 : decide (J.q < 1) = false := decide_eq_false h6
  have d7 : decide (100 < J.q) = false := decide_eq_false h7
  have d8 : decide (J.m < 256) = true := decide_eq_true h8
  clear h0 h1 h2 h3 h4 h5 h6 h7 h8
  go_enter Tryz.func47, Tryz.ntmps47
  go_wp2_with fail
  go_ret
  exact ⟨by rw [hE.out]; rfl, O1.out⟩

set_option maxHeartbeats 8000000 in
theorem rcj9 (J : Jb) (w : World) (h0 : ¬ (J.t < 1)) (h1 : ¬ (16 < J.t)) (h2 : ¬ (J.o < 1)) (h3 : ¬ (8 < J.o)) (h4 : ¬ (J.s < 1)) (h5 : ¬ (32 < J.s)) (h6 : ¬ (J.q < 1)) (h7 : ¬ (100 < J.q)) (h8 : ¬ (J.m < 256)) (h9 : 65536 < J.m) : Calls Tryz.prog 47 #[.agg (jobV J)] w fun e w' => e = .returned (.int .i64 (jobE J)) ∧ Only [] w w' := by
  have hE := hide (jobE_row (J := J) (q := 4) (by omega) (.inr (show 65536 < J.m from h9)))
  have b1 := Blk.new w 52 (jobV J)
  have o1 := (Only.refl [] w).alloc (.cells (jobV J) 52)
  unfold jobV at b1 o1
  unfold jobV
  have x0 := b1.cell 0
  have x1 := b1.cell 1
  have x2 := b1.cell 2
  have x3 := b1.cell 3
  have x4 := b1.cell 4
  have x5 := b1.cell 5
  have x6 := b1.cell 6
  have x7 := b1.cell 7
  have B1 := hide b1
  have O1 := hide o1
  clear b1 o1
  have d0 : decide (J.t < 1) = false := decide_eq_false h0
  have d1 : decide (16 < J.t) = false := decide_eq_false h1
  have d2 : decide (J.o < 1) = false := decide_eq_false h2
  have d3 : decide (8 < J.o) = false := decide_eq_false h3
  have d4 : decide (J.s < 1) = false := decide_eq_false h4
  have d5 : decide (32 < J.s) = false := decide_eq_false h5
  have d6 : decide (J.q < 1) = false := decide_eq_false h6
  have d7 : decide (100 < J.q) = false := decide_eq_false h7
  have d8 : decide (J.m < 256) = false := decide_eq_false h8
  have d9 : decide (65536 < J.m) = true := decide_eq_true h9
  clear h0 h1 h2 h3 h4 h5 h6 h7 h8 h9
  go_enter Tryz.func47, Tryz.ntmps47
  go_wp2_with fail
  go_ret
  exact ⟨by rw [hE.out]; rfl, O1.out⟩

set_option maxHeartbeats 8000000 in
theorem rcj10 (J : Jb) (w : World) (h0 : ¬ (J.t < 1)) (h1 : ¬ (16 < J.t)) (h2 : ¬ (J.o < 1)) (h3 : ¬ (8 < J.o)) (h4 : ¬ (J.s < 1)) (h5 : ¬ (32 < J.s)) (h6 : ¬ (J.q < 1)) (h7 : ¬ (100 < J.q)) (h8 : ¬ (J.m < 256)) (h9 : ¬ (65536 < J.m)) (h10 : ¬ J.m.tmod 8 = 0) : Calls Tryz.prog 47 #[.agg (jobV J)] w fun e w' => e = .returned (.int .i64 (jobE J)) ∧ Only [] w w' := by
  have hE := hide (jobE_row (J := J) (q := 8) (by omega) (by show (J.m.tmod 8 < 0 ∨ 0 < J.m.tmod 8); omega))
  have b1 := Blk.new w 52 (jobV J)
  have o1 := (Only.refl [] w).alloc (.cells (jobV J) 52)
  unfold jobV at b1 o1
  unfold jobV
  have x0 := b1.cell 0
  have x1 := b1.cell 1
  have x2 := b1.cell 2
  have x3 := b1.cell 3
  have x4 := b1.cell 4
  have x5 := b1.cell 5
  have x6 := b1.cell 6
  have x7 := b1.cell 7
  have B1 := hide b1
  have O1 := hide o1
  clear b1 o1
  have d0 : decide (J.t < 1) = false := decide_eq_false h0
  have d1 : decide (16 < J.t) = false := decide_eq_false h1
  have d2 : decide (J.o < 1) = false := decide_eq_false h2
  have d3 : decide (8 < J.o) = false := decide_eq_false h3
  have d4 : decide (J.s < 1) = false := decide_eq_false h4
  have d5 : decide (32 < J.s) = false := decide_eq_false h5
  have d6 : decide (J.q < 1) = false := decide_eq_false h6
  have d7 : decide (100 < J.q) = false := decide_eq_false h7
  have d8 : decide (J.m < 256) = false := decide_eq_false h8
  have d9 : decide (65536 < J.m) = false := decide_eq_false h9
  have d10 : (J.m.tmod 8 != 0) = true := by simpa using h10
  clear h0 h1 h2 h3 h4 h5 h6 h7 h8 h9 h10
  go_enter Tryz.func47, Tryz.ntmps47
  go_wp2_with fail
  go_ret
  exact ⟨by rw [hE.out]; rfl, O1.out⟩

set_option maxHeartbeats 8000000 in
theorem rcj11 (J : Jb) (w : World) (h0 : ¬ (J.t < 1)) (h1 : ¬ (16 < J.t)) (h2 : ¬ (J.o < 1)) (h3 : ¬ (8 < J.o)) (h4 : ¬ (J.s < 1)) (h5 : ¬ (32 < J.s)) (h6 : ¬ (J.q < 1)) (h7 : ¬ (100 < J.q)) (h8 : ¬ (J.m < 256)) (h9 : ¬ (65536 < J.m)) (h10 : ¬ (¬ J.m.tmod 8 = 0)) (h11 : J.p < 1) : Calls Tryz.prog 47 #[.agg (jobV J)] w fun e w' => e = .returned (.int .i64 (jobE J)) ∧ Only [] w w' := by
  have hE := hide (jobE_row (J := J) (q := 5) (by omega) (.inl (show J.p < 1 from h11)))
  have b1 := Blk.new w 52 (jobV J)
  have o1 := (Only.refl [] w).alloc (.cells (jobV J) 52)
  unfold jobV at b1 o1
  unfold jobV
  have x0 := b1.cell 0
  have x1 := b1.cell 1
  have x2 := b1.cell 2
  have x3 := b1.cell 3
  have x4 := b1.cell 4
  have x5 := b1.cell 5
  have x6 := b1.cell 6
  have x7 := b1.cell 7
  have B1 := hide b1
  have O1 := hide o1
  clear b1 o1
  have d0 : decide (J.t < 1) = false := decide_eq_false h0
  have d1 : decide (16 < J.t) = false := decide_eq_false h1
  have d2 : decide (J.o < 1) = false := decide_eq_false h2
  have d3 : decide (8 < J.o) = false := decide_eq_false h3
  have d4 : decide (J.s < 1) = false := decide_eq_false h4
  have d5 : decide (32 < J.s) = false := decide_eq_false h5
  have d6 : decide (J.q < 1) = false := decide_eq_false h6
  have d7 : decide (100 < J.q) = false := decide_eq_false h7
  have d8 : decide (J.m < 256) = false := decide_eq_false h8
  have d9 : decide (65536 < J.m) = false := decide_eq_false h9
  have d10 : (J.m.tmod 8 != 0) = false := by simpa using h10
  have d11 : decide (J.p < 1) = true := decide_eq_true h11
  clear h0 h1 h2 h3 h4 h5 h6 h7 h8 h9 h10 h11
  go_enter Tryz.func47, Tryz.ntmps47
  go_wp2_with fail
  go_ret
  exact ⟨by rw [hE.out]; rfl, O1.out⟩

set_option maxHeartbeats 8000000 in
theorem rcj12 (J : Jb) (w : World) (h0 : ¬ (J.t < 1)) (h1 : ¬ (16 < J.t)) (h2 : ¬ (J.o < 1)) (h3 : ¬ (8 < J.o)) (h4 : ¬ (J.s < 1)) (h5 : ¬ (32 < J.s)) (h6 : ¬ (J.q < 1)) (h7 : ¬ (100 < J.q)) (h8 : ¬ (J.m < 256)) (h9 : ¬ (65536 < J.m)) (h10 : ¬ (¬ J.m.tmod 8 = 0)) (h11 : ¬ (J.p < 1)) (h12 : 31 < J.p) : Calls Tryz.prog 47 #[.agg (jobV J)] w fun e w' => e = .returned (.int .i64 (jobE J)) ∧ Only [] w w' := by
  have hE := hide (jobE_row (J := J) (q := 5) (by omega) (.inr (show 31 < J.p from h12)))
  have b1 := Blk.new w 52 (jobV J)
  have o1 := (Only.refl [] w).alloc (.cells (jobV J) 52)
  unfold jobV at b1 o1
  unfold jobV
  have x0 := b1.cell 0
  have x1 := b1.cell 1
  have x2 := b1.cell 2
  have x3 := b1.cell 3
  have x4 := b1.cell 4
  have x5 := b1.cell 5
  have x6 := b1.cell 6
  have x7 := b1.cell 7
  have B1 := hide b1
  have O1 := hide o1
  clear b1 o1
  have d0 : decide (J.t < 1) = false := decide_eq_false h0
  have d1 : decide (16 < J.t) = false := decide_eq_false h1
  have d2 : decide (J.o < 1) = false := decide_eq_false h2
  have d3 : decide (8 < J.o) = false := decide_eq_false h3
  have d4 : decide (J.s < 1) = false := decide_eq_false h4
  have d5 : decide (32 < J.s) = false := decide_eq_false h5
  have d6 : decide (J.q < 1) = false := decide_eq_false h6
  have d7 : decide (100 < J.q) = false := decide_eq_false h7
  have d8 : decide (J.m < 256) = false := decide_eq_false h8
  have d9 : decide (65536 < J.m) = false := decide_eq_false h9
  have d10 : (J.m.tmod 8 != 0) = false := by simpa using h10
  have d11 : decide (J.p < 1) = false := decide_eq_false h11
  have d12 : decide (31 < J.p) = true := decide_eq_true h12
  clear h0 h1 h2 h3 h4 h5 h6 h7 h8 h9 h10 h11 h12
  go_enter Tryz.func47, Tryz.ntmps47
  go_wp2_with fail
  go_ret
  exact ⟨by rw [hE.out]; rfl, O1.out⟩

set_option maxHeartbeats 8000000 in
theorem rcl0 (J : Jb) (w : World) (h0 : ¬ (J.t < 1)) (h1 : ¬ (16 < J.t)) (h2 : ¬ (J.o < 1)) (h3 : ¬ (8 < J.o)) (h4 : ¬ (J.s < 1)) (h5 : ¬ (32 < J.s)) (h6 : ¬ (J.q < 1)) (h7 : ¬ (100 < J.q)) (h8 : ¬ (J.m < 256)) (h9 : ¬ (65536 < J.m)) (h10 : ¬ (¬ J.m.tmod 8 = 0)) (h11 : ¬ (J.p < 1)) (h12 : ¬ (31 < J.p)) (l0 : (J.pn : Int) < 1) : Calls Tryz.prog 47 #[.agg (jobV J)] w fun e w' => e = .returned (.int .i64 (jobE J)) ∧ Only [] w w' := by
  have hE := hide (jobE_row (J := J) (q := 6) (by omega) (.inl (show (J.pn : Int) < 1 from l0)))
  have b1 := Blk.new w 52 (jobV J)
  have o1 := (Only.refl [] w).alloc (.cells (jobV J) 52)
  unfold jobV at b1 o1
  unfold jobV
  have x0 := b1.cell 0
  have x1 := b1.cell 1
  have x2 := b1.cell 2
  have x3 := b1.cell 3
  have x4 := b1.cell 4
  have x5 := b1.cell 5
  have x6 := b1.cell 6
  have x7 := b1.cell 7
  have B1 := hide b1
  have O1 := hide o1
  clear b1 o1
  have d0 : decide (J.t < 1) = false := decide_eq_false h0
  have d1 : decide (16 < J.t) = false := decide_eq_false h1
  have d2 : decide (J.o < 1) = false := decide_eq_false h2
  have d3 : decide (8 < J.o) = false := decide_eq_false h3
  have d4 : decide (J.s < 1) = false := decide_eq_false h4
  have d5 : decide (32 < J.s) = false := decide_eq_false h5
  have d6 : decide (J.q < 1) = false := decide_eq_false h6
  have d7 : decide (100 < J.q) = false := decide_eq_false h7
  have d8 : decide (J.m < 256) = false := decide_eq_false h8
  have d9 : decide (65536 < J.m) = false := decide_eq_false h9
  have d10 : (J.m.tmod 8 != 0) = false := by simpa using h10
  have d11 : decide (J.p < 1) = false := decide_eq_false h11
  have d12 : decide (31 < J.p) = false := decide_eq_false h12
  have e0 : decide ((J.pn : Int) < 1) = true := decide_eq_true l0
  have i0 : decide (J.pn < 1) = true := decide_eq_true (by omega)
  clear h0 h1 h2 h3 h4 h5 h6 h7 h8 h9 h10 h11 h12 l0
  go_enter Tryz.func47, Tryz.ntmps47
  go_wp2_with fail
  go_ret
  exact ⟨by rw [hE.out]; rfl, O1.out⟩

set_option maxHeartbeats 8000000 in
theorem rcl1 (J : Jb) (w : World) (h0 : ¬ (J.t < 1)) (h1 : ¬ (16 < J.t)) (h2 : ¬ (J.o < 1)) (h3 : ¬ (8 < J.o)) (h4 : ¬ (J.s < 1)) (h5 : ¬ (32 < J.s)) (h6 : ¬ (J.q < 1)) (h7 : ¬ (100 < J.q)) (h8 : ¬ (J.m < 256)) (h9 : ¬ (65536 < J.m)) (h10 : ¬ (¬ J.m.tmod 8 = 0)) (h11 : ¬ (J.p < 1)) (h12 : ¬ (31 < J.p)) (l0 : ¬ ((J.pn : Int) < 1)) (l1 : 32 < (J.pn : Int)) : Calls Tryz.prog 47 #[.agg (jobV J)] w fun e w' => e = .returned (.int .i64 (jobE J)) ∧ Only [] w w' := by
  have hE := hide (jobE_row (J := J) (q := 6) (by omega) (.inr (show 32 < (J.pn : Int) from l1)))
  have b1 := Blk.new w 52 (jobV J)
  have o1 := (Only.refl [] w).alloc (.cells (jobV J) 52)
  unfold jobV at b1 o1
  unfold jobV
  have x0 := b1.cell 0
  have x1 := b1.cell 1
  have x2 := b1.cell 2
  have x3 := b1.cell 3
  have x4 := b1.cell 4
  have x5 := b1.cell 5
  have x6 := b1.cell 6
  have x7 := b1.cell 7
  have B1 := hide b1
  have O1 := hide o1
  clear b1 o1
  have d0 : decide (J.t < 1) = false := decide_eq_false h0
  have d1 : decide (16 < J.t) = false := decide_eq_false h1
  have d2 : decide (J.o < 1) = false := decide_eq_false h2
  have d3 : decide (8 < J.o) = false := decide_eq_false h3
  have d4 : decide (J.s < 1) = false := decide_eq_false h4
  have d5 : decide (32 < J.s) = false := decide_eq_false h5
  have d6 : decide (J.q < 1) = false := decide_eq_false h6
  have d7 : decide (100 < J.q) = false := decide_eq_false h7
  have d8 : decide (J.m < 256) = false := decide_eq_false h8
  have d9 : decide (65536 < J.m) = false := decide_eq_false h9
  have d10 : (J.m.tmod 8 != 0) = false := by simpa using h10
  have d11 : decide (J.p < 1) = false := decide_eq_false h11
  have d12 : decide (31 < J.p) = false := decide_eq_false h12
  have e0 : decide ((J.pn : Int) < 1) = false := decide_eq_false l0
  have i0 : decide (J.pn < 1) = false := decide_eq_false (by omega)
  have e1 : decide (32 < (J.pn : Int)) = true := decide_eq_true l1
  have i1 : decide (32 < J.pn) = true := decide_eq_true (by omega)
  clear h0 h1 h2 h3 h4 h5 h6 h7 h8 h9 h10 h11 h12 l0 l1
  go_enter Tryz.func47, Tryz.ntmps47
  go_wp2_with fail
  go_ret
  exact ⟨by rw [hE.out]; rfl, O1.out⟩

set_option maxHeartbeats 8000000 in
theorem rcl2 (J : Jb) (w : World) (h0 : ¬ (J.t < 1)) (h1 : ¬ (16 < J.t)) (h2 : ¬ (J.o < 1)) (h3 : ¬ (8 < J.o)) (h4 : ¬ (J.s < 1)) (h5 : ¬ (32 < J.s)) (h6 : ¬ (J.q < 1)) (h7 : ¬ (100 < J.q)) (h8 : ¬ (J.m < 256)) (h9 : ¬ (65536 < J.m)) (h10 : ¬ (¬ J.m.tmod 8 = 0)) (h11 : ¬ (J.p < 1)) (h12 : ¬ (31 < J.p)) (l0 : ¬ ((J.pn : Int) < 1)) (l1 : ¬ (32 < (J.pn : Int))) (l2 : 32 < (J.tn : Int)) : Calls Tryz.prog 47 #[.agg (jobV J)] w fun e w' => e = .returned (.int .i64 (jobE J)) ∧ Only [] w w' := by
  have hE := hide (jobE_row (J := J) (q := 7) (by omega) (.inr (show 32 < (J.tn : Int) from l2)))
  have b1 := Blk.new w 52 (jobV J)
  have o1 := (Only.refl [] w).alloc (.cells (jobV J) 52)
  unfold jobV at b1 o1
  unfold jobV
  have x0 := b1.cell 0
  have x1 := b1.cell 1
  have x2 := b1.cell 2
  have x3 := b1.cell 3
  have x4 := b1.cell 4
  have x5 := b1.cell 5
  have x6 := b1.cell 6
  have x7 := b1.cell 7
  have B1 := hide b1
  have O1 := hide o1
  clear b1 o1
  have d0 : decide (J.t < 1) = false := decide_eq_false h0
  have d1 : decide (16 < J.t) = false := decide_eq_false h1
  have d2 : decide (J.o < 1) = false := decide_eq_false h2
  have d3 : decide (8 < J.o) = false := decide_eq_false h3
  have d4 : decide (J.s < 1) = false := decide_eq_false h4
  have d5 : decide (32 < J.s) = false := decide_eq_false h5
  have d6 : decide (J.q < 1) = false := decide_eq_false h6
  have d7 : decide (100 < J.q) = false := decide_eq_false h7
  have d8 : decide (J.m < 256) = false := decide_eq_false h8
  have d9 : decide (65536 < J.m) = false := decide_eq_false h9
  have d10 : (J.m.tmod 8 != 0) = false := by simpa using h10
  have d11 : decide (J.p < 1) = false := decide_eq_false h11
  have d12 : decide (31 < J.p) = false := decide_eq_false h12
  have e0 : decide ((J.pn : Int) < 1) = false := decide_eq_false l0
  have i0 : decide (J.pn < 1) = false := decide_eq_false (by omega)
  have e1 : decide (32 < (J.pn : Int)) = false := decide_eq_false l1
  have i1 : decide (32 < J.pn) = false := decide_eq_false (by omega)
  have e2 : decide (32 < (J.tn : Int)) = true := decide_eq_true l2
  have i2 : decide (32 < J.tn) = true := decide_eq_true (by omega)
  clear h0 h1 h2 h3 h4 h5 h6 h7 h8 h9 h10 h11 h12 l0 l1 l2
  go_enter Tryz.func47, Tryz.ntmps47
  go_wp2_with fail
  go_ret
  exact ⟨by rw [hE.out]; rfl, O1.out⟩

set_option maxHeartbeats 16000000 in
theorem rcj_loops (J : Jb) (w : World) (hJ : JbAt w J) (h0 : ¬ (J.t < 1)) (h1 : ¬ (16 < J.t)) (h2 : ¬ (J.o < 1)) (h3 : ¬ (8 < J.o)) (h4 : ¬ (J.s < 1)) (h5 : ¬ (32 < J.s)) (h6 : ¬ (J.q < 1)) (h7 : ¬ (100 < J.q)) (h8 : ¬ (J.m < 256)) (h9 : ¬ (65536 < J.m)) (h10 : ¬ (¬ J.m.tmod 8 = 0)) (h11 : ¬ (J.p < 1)) (h12 : ¬ (31 < J.p)) (l0 : ¬ ((J.pn : Int) < 1)) (l1 : ¬ (32 < (J.pn : Int))) (l2 : ¬ (32 < (J.tn : Int))) : Calls Tryz.prog 47 #[.agg (jobV J)] w fun e w' => e = .returned (.int .i64 (jobE J)) ∧ Only [] w w' := by
  obtain ⟨hP, hT, hpn, htn⟩ := hJ
  have HP := hide hP
  have HT := hide hT
  have HR := hide (show rowsP J from fun q hq => by
    rcases (by omega : q = 0 ∨ q = 1 ∨ q = 2 ∨ q = 3 ∨ q = 4 ∨ q = 5 ∨ q = 6 ∨ q = 7 ∨ q = 8) with h | h | h | h | h | h | h | h | h
    all_goals (subst h; simp only [lo9, hi9, v9]; omega))
  unfold maxLen at hpn htn
  have b1 := Blk.new w 52 (jobV J)
  have o1 := (Only.refl [] w).alloc (.cells (jobV J) 52)
  unfold jobV at b1 o1
  unfold jobV
  have x0 := b1.cell 0
  have x1 := b1.cell 1
  have x2 := b1.cell 2
  have x3 := b1.cell 3
  have x4 := b1.cell 4
  have x5 := b1.cell 5
  have x6 := b1.cell 6
  have x7 := b1.cell 7
  have B1 := hide b1
  have O1 := hide o1
  clear b1 o1
  have d0 : decide (J.t < 1) = false := decide_eq_false h0
  have d1 : decide (16 < J.t) = false := decide_eq_false h1
  have d2 : decide (J.o < 1) = false := decide_eq_false h2
  have d3 : decide (8 < J.o) = false := decide_eq_false h3
  have d4 : decide (J.s < 1) = false := decide_eq_false h4
  have d5 : decide (32 < J.s) = false := decide_eq_false h5
  have d6 : decide (J.q < 1) = false := decide_eq_false h6
  have d7 : decide (100 < J.q) = false := decide_eq_false h7
  have d8 : decide (J.m < 256) = false := decide_eq_false h8
  have d9 : decide (65536 < J.m) = false := decide_eq_false h9
  have d10 : (J.m.tmod 8 != 0) = false := by simpa using h10
  have d11 : decide (J.p < 1) = false := decide_eq_false h11
  have d12 : decide (31 < J.p) = false := decide_eq_false h12
  have e0 : decide ((J.pn : Int) < 1) = false := decide_eq_false l0
  have i0 : decide (J.pn < 1) = false := decide_eq_false (by omega)
  have e1 : decide (32 < (J.pn : Int)) = false := decide_eq_false l1
  have i1 : decide (32 < J.pn) = false := decide_eq_false (by omega)
  have e2 : decide (32 < (J.tn : Int)) = false := decide_eq_false l2
  have i2 : decide (32 < J.tn) = false := decide_eq_false (by omega)
  clear hP hT h0 h1 h2 h3 h4 h5 h6 h7 h8 h9 h10 h11 h12 l0 l1 l2
  go_enter Tryz.func47, Tryz.ntmps47
  go_wp2_with fail
  clear d0 d1 d2 d3 d4 d5 d6 d7 d8 d9 d10 d11 d12 e0 e1 e2 i0 i1 i2 x0 x1 x2 x3 x4 x5 x6 x7
  obtain ⟨X, hX⟩ : ∃ X, w.heap.size = X := ⟨_, rfl⟩
  rw [hX] at B1
  simp only [hX]
  obtain ⟨V, hV⟩ : ∃ V, w.alloc (.cells #[.int .i64 J.t, .int .i64 J.o, .int .i64 J.s, .int .i64 J.q, .int .i64 J.m, .int .i64 J.p, .slice J.pA J.pn J.pc, .slice J.tA J.tn J.tc] 52) = V := ⟨_, rfl⟩
  rw [hV] at B1 O1 ⊢
  clear hX hV
  go_loopw [3] (fun v3 wr => ∃ q : Nat, q ≤ J.pn ∧ v3 = .int .i64 q ∧ Hid (∀ j, j < q → badG J.P j = false) ∧ Hid (Only [] V wr)) (fun v3 _ => J.pn - (intOf v3).toNat)
  case atStart => exact ⟨0, by omega, rfl, hide (fun j hj => by omega), hide (Only.refl _ _)⟩
  case round =>
    obtain ⟨q, hq, rfl, hz, hO⟩ := hrel
    have bJ := B1.out.only hO.out (by simp)
    have y6 := bJ.cell 6
    have BJ := hide bJ
    have OW := hide (O1.out.trans0 hO.out)
    clear bJ
    by_cases hqn : q < J.pn
    · obtain ⟨a, hA, m0, m1, m2⟩ := HP.out q hqn
      rw [hA] at y6
      have c0 := OW.out.keep0 m0
      obtain ⟨xx, hx⟩ := chkV_bad (J.P q).n (J.P q).f
      have CK := rcheck_any (J.P q).A (J.P q).n (J.P q).c (J.P q).f wr (m2.only0 OW.out) m1
      rw [hx] at CK
      obtain ⟨b, hb⟩ : ∃ b, badP (J.P q).n (J.P q).f = b := ⟨_, rfl⟩
      rw [hb] at CK
      have CK := hide CK
      have HB := hide (show badG J.P q = b from hb)
      have j0 : (0 : Int) ≤ (q : Int) := by omega
      have j1 : (q : Int) < (J.pn : Int) := by omega
      clear m0 m2 hx hb hA
      cases b with
      | false =>
        go_wp2_with (go_at_call 72; (with_reducible refine CK.out.mono ?_); rintro e w1 ⟨rfl, o⟩; have O2 := hide (hO.out.trans0 o); clear o)
        go_roundw
        case rel => exact ⟨q + 1, by omega, by go_num, hide (fun j hj => by
          rcases (by omega : j < q ∨ j = q) with h | h
          · exact hz.out j h
          · subst h; exact HB.out), O2⟩
        case measure => simp [intOf]; omega
      | true =>
        have hE := hide (jobE_prog (J := J) (by rw [fb_at hqn HB.out hz.out]; omega))
        go_wp2_with (go_at_call 72; (with_reducible refine CK.out.mono ?_); rintro e w1 ⟨rfl, o⟩; have O2 := hide (OW.out.trans0 o); clear o)
        go_ret
        exact ⟨by rw [hE.out]; rfl, O2.out⟩
    · obtain rfl : q = J.pn := by omega
      have hfb := hide (fb_none hz.out)
      clear hqn hq
      go_wp2_with fail
      go_loopw [6] (fun v6 wt => ∃ q : Nat, q ≤ J.tn ∧ v6 = .int .i64 q ∧ Hid (∀ j, j < q → longG J.T j = false) ∧ wr = wt) (fun v6 _ => J.tn - (intOf v6).toNat)
      case atStart => exact ⟨0, by omega, rfl, hide (fun j hj => by omega), (by first | rfl | trivial)⟩
      case round =>
        obtain ⟨q, hq, rfl, hz2, hw⟩ := hrel
        obtain rfl := hw
        have y7 := BJ.out.cell 7
        by_cases hqn : q < J.tn
        · obtain ⟨a, hA, m0⟩ := HT.out q hqn
          rw [hA] at y7
          have c0 := OW.out.keep0 m0
          have j0 : (0 : Int) ≤ (q : Int) := by omega
          have j1 : (q : Int) < (J.tn : Int) := by omega
          clear m0 hA
          by_cases hl : 64 < (J.T q).size
          · have hE := hide (jobE_text (J := J) (by rw [fb_at hqn (show longG J.T q = true from decide_eq_true hl) hz2.out]; omega))
            have f0 : decide ((64 : Int) < ((J.T q).size : Int)) = true := decide_eq_true (by omega)
            have f1 : decide (64 < (J.T q).size) = true := decide_eq_true hl
            clear hl
            go_wp2_with fail
            go_ret
            exact ⟨by rw [hE.out]; rfl, OW.out⟩
          · have HB := hide (show longG J.T q = false from decide_eq_false hl)
            have f0 : decide ((64 : Int) < ((J.T q).size : Int)) = false := decide_eq_false (by omega)
            have f1 : decide (64 < (J.T q).size) = false := decide_eq_false hl
            clear hl
            go_wp2_with fail
            go_roundw
            case rel => exact ⟨q + 1, by omega, by go_num, hide (fun j hj => by
              rcases (by omega : j < q ∨ j = q) with h | h
              · exact hz2.out j h
              · subst h; exact HB.out), (by first | rfl | trivial)⟩
            case measure => simp [intOf]; omega
        · obtain rfl : q = J.tn := by omega
          have hE := hide (jobE_ok HR.out (by rw [hfb.out]; omega) (by rw [fb_none hz2.out]; omega))
          clear hqn hq
          go_wp2_with fail
          go_ret
          exact ⟨by rw [hE.out]; rfl, OW.out⟩

theorem rcheckjob_any (J : Jb) (w : World) (hJ : JbAt w J) : Calls Tryz.prog 47 #[.agg (jobV J)] w fun e w' => e = .returned (.int .i64 (jobE J)) ∧ Only [] w w' := by
  by_cases h0 : J.t < 1
  · exact rcj0 J w h0
  by_cases h1 : 16 < J.t
  · exact rcj1 J w h0 h1
  by_cases h2 : J.o < 1
  · exact rcj2 J w h0 h1 h2
  by_cases h3 : 8 < J.o
  · exact rcj3 J w h0 h1 h2 h3
  by_cases h4 : J.s < 1
  · exact rcj4 J w h0 h1 h2 h3 h4
  by_cases h5 : 32 < J.s
  · exact rcj5 J w h0 h1 h2 h3 h4 h5
  by_cases h6 : J.q < 1
  · exact rcj6 J w h0 h1 h2 h3 h4 h5 h6
  by_cases h7 : 100 < J.q
  · exact rcj7 J w h0 h1 h2 h3 h4 h5 h6 h7
  by_cases h8 : J.m < 256
  · exact rcj8 J w h0 h1 h2 h3 h4 h5 h6 h7 h8
  by_cases h9 : 65536 < J.m
  · exact rcj9 J w h0 h1 h2 h3 h4 h5 h6 h7 h8 h9
  by_cases h10 : ¬ J.m.tmod 8 = 0
  · exact rcj10 J w h0 h1 h2 h3 h4 h5 h6 h7 h8 h9 h10
  by_cases h11 : J.p < 1
  · exact rcj11 J w h0 h1 h2 h3 h4 h5 h6 h7 h8 h9 h10 h11
  by_cases h12 : 31 < J.p
  · exact rcj12 J w h0 h1 h2 h3 h4 h5 h6 h7 h8 h9 h10 h11 h12
  by_cases l0 : (J.pn : Int) < 1
  · exact rcl0 J w h0 h1 h2 h3 h4 h5 h6 h7 h8 h9 h10 h11 h12 l0
  by_cases l1 : 32 < (J.pn : Int)
  · exact rcl1 J w h0 h1 h2 h3 h4 h5 h6 h7 h8 h9 h10 h11 h12 l0 l1
  by_cases l2 : 32 < (J.tn : Int)
  · exact rcl2 J w h0 h1 h2 h3 h4 h5 h6 h7 h8 h9 h10 h11 h12 l0 l1 l2
  exact rcj_loops J w hJ h0 h1 h2 h3 h4 h5 h6 h7 h8 h9 h10 h11 h12 l0 l1 l2

end Go.Proofs.YteblhklclcjonaaGreatDoor
namespace Go.Proofs.YteblhklclcjonaaGreatDoor
open Go.RowKit
set_option linter.unusedVariables false
set_option linter.all false
set_option maxRecDepth 20000
attribute [local go_sem ↓] app_hide

def v6A (v : Nat → Int) : Array Value := #[.int .i64 (v 0), .int .i64 (v 1), .int .i64 (v 2), .int .i64 (v 3), .int .i64 (v 4), .int .i64 (v 5)]
theorem v6A_get (v : Nat → Int) (q : Nat) (h : q < 6) : (v6A v)[q]? = some (.int .i64 (v q)) := by
  rcases (by omega : q = 0 ∨ q = 1 ∨ q = 2 ∨ q = 3 ∨ q = 4 ∨ q = 5) with h | h | h | h | h | h <;> subst h <;> rfl
theorem headN_len (v : Nat → Int) : ∀ q, (headN v q).length ≤ 3 + 23 * q
  | 0 => Nat.le_refl _
  | q + 1 => by
    have := headN_len v q
    have := pl_itoaF (v q)
    unfold headN
    simp only [List.length_append, List.length_cons]
    omega
set_option maxHeartbeats 4000000 in
theorem rhead_any (v : Nat → Int) (hv : ∀ q, q < 6 → -9223372036854775808 ≤ v q ∧ v q ≤ 9223372036854775807) (p t : Value) (w : World) (he : Env w) : Calls Tryz.prog 49 #[.agg (job8 v p t)] w fun e w' => e = .returned (.string (bs (headB v))) ∧ Only [] w w' := by
  have B1 := Blk.new w 52 (job8 v p t)
  have O1 := (Only.refl [] w).alloc (.cells (job8 v p t) 52)
  have x0 := (B1.cell 0).trans (job8_get v p t 0 (by omega))
  have x1 := (B1.cell 1).trans (job8_get v p t 1 (by omega))
  have x2 := (B1.cell 2).trans (job8_get v p t 2 (by omega))
  have x3 := (B1.cell 3).trans (job8_get v p t 3 (by omega))
  have x4 := (B1.cell 4).trans (job8_get v p t 4 (by omega))
  have x5 := (B1.cell 5).trans (job8_get v p t 5 (by omega))
  obtain ⟨J8, hJ8⟩ : ∃ x, job8 v p t = x := ⟨_, rfl⟩
  rw [hJ8] at O1 x0 x1 x2 x3 x4 x5 ⊢
  have BL := Blk.new (w.alloc (.cells J8 52)) 3 (v6A v)
  have O2 := O1.alloc (.cells (v6A v) 3)
  rw [World.size_alloc] at BL
  obtain ⟨X, hX⟩ : ∃ x, w.heap.size = x := ⟨_, rfl⟩
  rw [hX] at BL x0 x1 x2 x3 x4 x5
  have HE := hide he
  have HV := hide hv
  have BL := hide BL
  have O2 := hide O2
  clear he hv hJ8 B1 O1
  go_enter Tryz.func49, Tryz.ntmps49
  go_wp2_with fail
  unfold v6A at BL O2
  try simp only [hX]
  obtain ⟨V, hV⟩ : ∃ W, (w.alloc (.cells J8 52)).alloc (.cells #[.int .i64 (v 0), .int .i64 (v 1), .int .i64 (v 2), .int .i64 (v 3), .int .i64 (v 4), .int .i64 (v 5)] 3) = W := ⟨_, rfl⟩
  rw [hV] at BL O2 ⊢
  have BL := hide (show Blk V (X + 1) 3 (v6A v) from BL.out)
  clear hV hX x0 x1 x2 x3 x4 x5
  go_loopw [3, 5] (fun v3 v5 wr => ∃ q : Nat, q ≤ 6 ∧ v3 = .string (bs (headN v q)) ∧ v5 = .int .i64 q ∧ Hid (Only [] V wr)) (fun _ v5 _ => 6 - (intOf v5).toNat)
  case atStart => exact ⟨0, by omega, rfl, rfl, hide (Only.refl _ _)⟩
  case round =>
    obtain ⟨q, hq, rfl, rfl, hO⟩ := hrel
    by_cases hqn : q < 6
    · have j0 : (0 : Int) ≤ (q : Int) := by omega
      have j1 : (q : Int) < 6 := by omega
      have cq := ((BL.out.only hO.out (by simp)).cell q).trans (v6A_get v q hqn)
      have hb := HV.out q hqn
      have IT := fun W (o : Only [] wr W) => itoaE_any (v q) hb.1 hb.2 W (HE.out.only ((O2.out.trans0 hO.out).trans0 o))
      have hl := headN_len v q
      have hi := pl_itoaF (v q)
      have hst : headN v (q + 1) = headN v q ++ 32 :: itoaF (v q) := rfl
      have c1 : bs (headN v q) ++ (⟨#[32]⟩ : ByteArray) = bs (headN v q ++ [32]) := bs_cat (headN v q) [32]
      have c2 : bs (headN v q ++ [32]) ++ bs (itoaF (v q)) = bs (headN v (q + 1)) := by rw [hst, bs_cat]; simp
      have z1 : ¬ 9223372036854775807 < (bs (headN v q)).size + (⟨#[32]⟩ : ByteArray).size := by rw [bs_size, show (⟨#[32]⟩ : ByteArray).size = 1 from rfl]; omega
      have z2 : ¬ 9223372036854775807 < (bs (headN v q ++ [32])).size + (bs (itoaF (v q))).size := by rw [bs_size, bs_size]; simp; omega
      obtain ⟨s0, hs0⟩ : ∃ s, bs (headN v q) = s := ⟨_, rfl⟩
      obtain ⟨s1, hs1⟩ : ∃ s, bs (headN v q ++ [32]) = s := ⟨_, rfl⟩
      obtain ⟨s2, hs2⟩ : ∃ s, bs (itoaF (v q)) = s := ⟨_, rfl⟩
      obtain ⟨s3, hs3⟩ : ∃ s, bs (headN v (q + 1)) = s := ⟨_, rfl⟩
      obtain ⟨vq, hvq⟩ : ∃ s, v q = s := ⟨_, rfl⟩
      rw [hs0] at c1 z1 ⊢
      rw [hs1] at c1 c2 z2
      rw [hs2] at c2 z2 IT
      rw [hs3] at c2
      rw [hvq] at cq IT
      have HS3 := hide hs3
      have IT := hide IT
      clear hb hl hi hst hs0 hs1 hs2 hs3 hvq
      go_wp2_with (go_at_call 31; (with_reducible refine (IT.out _ (Only.refl _ _)).mono ?_); rintro e w2 ⟨rfl, o⟩; have ON := hide (hO.out.trans0 o); clear o)
      go_roundw
      case rel => exact ⟨q + 1, by omega, by rw [HS3.out], by go_num, ON⟩
      case measure => simp [intOf]; omega
    · obtain rfl : q = 6 := by omega
      go_wp2_with fail
      go_ret
      exact ⟨rfl, O2.out.trans0 hO.out⟩
/-- Three bytes are appended. -/
theorem app_3 (W : World) (B : Nat) (A : Option Addr) (c : Nat) (l : List UInt8) (x y z : UInt8) (hrow : Us W B A c l) (hl : l.length ≤ 8000000) (hB : B ≤ W.heap.size) :
    ∃ g' c' w2, (AppH #[68, 68] 68 #[.slice A l.length c, .slice (some ⟨W.heap.size, 0, none⟩) 3 3]).run Tryz.prog (W.alloc (.cells #[.int .u8 (x.toNat : Int), .int .u8 (y.toNat : Int), .int .u8 (z.toNat : Int)] 5)) = .ok (.slice (some ⟨g', 0, none⟩) (l.length + 3) c') w2 ∧
      Us w2 B (some ⟨g', 0, none⟩) c' (l ++ [x, y, z]) ∧ Only (blkOf A) W w2 := by
  obtain ⟨i0, hi, hz0, hz1, hz2⟩ := info_parts info5
  obtain ⟨g', cap', w2, hrun, hown, ho, hgg⟩ := append_at (P := Tryz.prog) (W.alloc (.cells #[.int .u8 (x.toNat : Int), .int .u8 (y.toNat : Int), .int .u8 (z.toNat : Int)] 5)) B 68 68 5 i0 (.int .u8 0) 1 1 Tryz.underlying68 hi hz0 hz1 hz2 rfl (by omega) A l.length c (U8s l) (own_only' hrow ((Only.refl [] W).alloc _) (by simp))
    ⟨W.heap.size, 0, none⟩ 3 3 [.int .u8 (x.toNat : Int), .int .u8 (y.toNat : Int), .int .u8 (z.toNat : Int)] rfl (fun j u hj => by
      have := (Blk.new W 5 #[.int .u8 (x.toNat : Int), .int .u8 (y.toNat : Int), .int .u8 (z.toNat : Int)]).cell j
      rw [add_mk, Nat.zero_add, this]
      rw [← Array.getElem?_toList]
      exact hj) (by intro u hu; simp at hu; rcases hu with rfl | rfl | rfl <;> rfl) (.inl (by omega)) (by unfold maxLen; omega) (by omega) (by simp; omega)
  rw [app_hide] at hrun
  have e : U8s l ++ [.int .u8 (x.toNat : Int), .int .u8 (y.toNat : Int), .int .u8 (z.toNat : Int)] = U8s (l ++ [x, y, z]) := by rw [U8s_append]; simp [U8s, U8]
  rw [e] at hown
  exact ⟨g', cap', w2, hrun, by unfold Us; simpa using hown, ((Only.refl (blkOf A) W).alloc _).trans' ho⟩
theorem hexi_fin : ∀ k : Fin 16, ∀ h : k.val < HEXS.size, HEXS[k.val]'h = hexC k.val := by decide +kernel
set_option maxHeartbeats 4000000 in
theorem rword_any (b : List UInt8) (hb : b.length ≤ 600000) (w : World) : Calls Tryz.prog 51 #[.string (bs b)] w fun e w' => e = .returned (.string (bs (wordB b))) ∧ Only [] w w' := by
  have hz : (bs b).size = b.length := bs_size b
  by_cases hb0 : b = []
  · subst hb0
    go_enter Tryz.func51, Tryz.ntmps51
    go_wp2_with fail
    go_ret
    exact ⟨rfl, Only.refl _ _⟩
  · have hW : wordB b = b.flatMap chB := if_neg hb0
    rw [hW]
    have hbl : b.length ≠ 0 := fun h => hb0 (List.length_eq_zero_iff.1 h)
    have e0 : ((b.length : Int) == 0) = false := by simp; omega
    clear hW
    go_enter Tryz.func51, Tryz.ntmps51
    go_wp2_with fail
    go_loopw [3, 4] (fun v3 v4 wr => ∃ (j : Nat) (l : List UInt8) (A : Option Addr) (c : Nat), j ≤ b.length ∧ v3 = .slice A l.length c ∧ v4 = .int .i64 j ∧ Hid (l = (b.take j).flatMap chB) ∧ l.length ≤ 3 * j ∧ Hid (Us wr w.heap.size A c l) ∧ Hid (Only [] w wr)) (fun _ v4 _ => b.length - (intOf v4).toNat)
    case atStart => exact ⟨0, [], none, 0, Nat.zero_le _, rfl, rfl, hide rfl, by simp, hide (World.ownsRow_nil ..), hide (Only.refl _ _)⟩
    case round =>
      obtain ⟨j, l, A, c, hj, rfl, rfl, hl, hll, hU, hO⟩ := hrel
      by_cases hlt : j < b.length
      · have j0 : (0 : Int) ≤ (j : Int) := by omega
        have j1 : (j : Int) < (b.length : Int) := by omega
        have d0 : decide (j < (bs b).size) = true := decide_eq_true (by omega)
        have d1 : j < (bs b).size := by omega
        have hg : (bs b)[j]'d1 = b[j]'hlt := by simp [bs, ByteArray.getElem_eq_getElem_data]
        obtain ⟨x, hx⟩ : ∃ x, (bs b)[j]'d1 = x := ⟨_, rfl⟩
        have hxs : b[j]? = some x := by rw [List.getElem?_eq_getElem hlt, ← hg, hx]
        have htk : b.take (j + 1) = b.take j ++ [x] := by rw [List.take_add_one, hxs]; rfl
        have HL := hide (show l ++ chB x = (b.take (j + 1)).flatMap chB by rw [htk, flat_snoc, ← hl.out])
        have hcl := chB_len x
        have hge := own_ge hU.out
        have hws := hO.out.size
        cases hok : okB x with
        | true =>
          have hk := (okB_iff x).1 hok
          have hch := chB_ok hok
          rw [hch] at HL
          have hk3 : x.toNat ≠ 37 := fun h => hk.2.2 (UInt8.toNat_inj.1 h)
          obtain ⟨gA, cA, w2, hrun, hU2, o2⟩ := app_u8 wr w.heap.size A c l x hU.out (by omega) hws
          have ON := hide (hO.out.trans o2 (fun k hk => .inr (hge k hk).1))
          have UN := hide hU2
          have q1 : decide ((33 : Int) ≤ (x.toNat : Int)) = true := decide_eq_true (by omega)
          have q2 : decide ((x.toNat : Int) ≤ 126) = true := decide_eq_true (by omega)
          have q3 : ((x.toNat : Int) != 37) = true := by simp; omega
          clear hg hxs htk hcl hok hk hch hk3 hU hO hge hU2 o2 hl
          go_wp2_with fail
          go_roundw
          case rel => exact ⟨j + 1, l ++ [x], some ⟨gA, 0, none⟩, cA, by omega, by simp, by go_num, HL, by simp; omega, UN, ON⟩
          case measure => simp [intOf]; omega
        | false =>
          have hch := chB_no (c := x) (by rw [hok]; decide)
          rw [hch] at HL
          have hk : ¬ (33 ≤ x.toNat ∧ x.toNat ≤ 126 ∧ x.toNat ≠ 37) := fun h => by
            have : okB x = true := (okB_iff x).2 ⟨h.1, h.2.1, fun e => h.2.2 (by rw [e]; rfl)⟩
            rw [hok] at this; cases this
          have hc256 := x.toNat_lt
          have K : decide ((33 : Int) ≤ (x.toNat : Int)) = false ∨ (decide ((33 : Int) ≤ (x.toNat : Int)) = true ∧ decide ((x.toNat : Int) ≤ 126) = false) ∨ (decide ((33 : Int) ≤ (x.toNat : Int)) = true ∧ decide ((x.toNat : Int) ≤ 126) = true ∧ ((x.toNat : Int) != 37) = false) := by
            by_cases h1 : (33 : Int) ≤ (x.toNat : Int)
            · by_cases h2 : (x.toNat : Int) ≤ 126
              · exact .inr (.inr ⟨decide_eq_true h1, decide_eq_true h2, by simp; omega⟩)
              · exact .inr (.inl ⟨decide_eq_true h1, decide_eq_false h2⟩)
            · exact .inl (decide_eq_false h1)
          have ea := and_fin ⟨x.toNat, hc256⟩
          simp only at ea
          obtain ⟨hi, hhi⟩ : ∃ z, x.toNat / 16 = z := ⟨_, rfl⟩
          obtain ⟨lo, hlo⟩ : ∃ z, x.toNat % 16 = z := ⟨_, rfl⟩
          have e1 : (x.toNat : Int) / 16 = (hi : Int) := by omega
          have h16 : HEXS.size = 16 := rfl
          have hh1 : hi < HEXS.size := by rw [h16]; omega
          have hh2 : lo < HEXS.size := by rw [h16]; omega
          have gx1 := hexi_fin ⟨hi, by omega⟩ hh1
          have gx2 := hexi_fin ⟨lo, by omega⟩ hh2
          simp only at gx1 gx2
          unfold HEXS at hh1 hh2 gx1 gx2 h16
          rw [hhi, hlo] at HL
          rw [hlo] at ea
          obtain ⟨gA, cA, w2, hrun, hU2, o2⟩ := app_3 wr.drew w.heap.size A c l 37 (hexC hi) (hexC lo) (hU.out.only0 (Only.refl [] wr).drew) (by omega) hws
          have hrun : (AppH #[68, 68] 68 #[.slice A l.length c, .slice (some ⟨wr.heap.size, 0, none⟩) 3 3]).run Tryz.prog (wr.alloc (.cells #[.int .u8 37, .int .u8 ((hexC hi).toNat : Int), .int .u8 ((hexC lo).toNat : Int)] 5)).drew = .ok (.slice (some ⟨gA, 0, none⟩) (l.length + 3) cA) w2 := hrun
          have ON := hide ((hO.out.drew).trans o2 (fun k hk => .inr (hge k hk).1))
          have UN := hide hU2
          have i1 : (0 : Int) ≤ (hi : Int) := by omega
          have i2 : (hi : Int) < 16 := by omega
          have i3 : (0 : Int) ≤ (lo : Int) := by omega
          have i4 : (lo : Int) < 16 := by omega
          clear hg hxs htk hcl hok hk hch hU hO hge hU2 o2 hl hhi hlo
          rcases K with h1 | ⟨h1, h2⟩ | ⟨h1, h2, h3⟩
          all_goals
            go_wp2_with fail
            go_region
            go_wp2_with fail
            go_roundw
            case rel => exact ⟨j + 1, l ++ [37, hexC hi, hexC lo], some ⟨gA, 0, none⟩, cA, by omega, by simp, by go_num, HL, by simp; omega, UN, ON⟩
            case measure => simp [intOf]; omega
      · obtain rfl : j = b.length := by omega
        have hfin := hide (show bs l = bs (b.flatMap chB) by rw [hl.out, List.take_length])
        have cv := run_str_any A l.length c l wr rfl (Src.own hU.out)
        go_wp2_with fail
        go_ret
        exact ⟨by rw [← hfin.out]; rfl, hO.out⟩
end Go.Proofs.YteblhklclcjonaaGreatDoor
namespace Go.Proofs.YteblhklclcjonaaGreatDoor
open Go.RowKit
set_option linter.unusedVariables false
set_option linter.all false
set_option maxRecDepth 20000

set_option maxHeartbeats 8000000 in
theorem rscheck_any (J : Jb) (A : Option Addr) (n c : Nat) (f : Nat → Ev) (w : World) (hJ : JbAt w J) (hE : EvAt w A n f) (hn : n ≤ maxLen) : Calls Tryz.prog 25 #[.agg (sc9 J A n c)] w fun e w' => e = .returned (.tuple #[.int .i64 (chkE J n f).1, .int .i64 (chkE J n f).2]) ∧ Only [] w w' := by
  unfold maxLen at hn
  have B1 := hide (Blk.new w 54 (sc9 J A n c))
  have O1 := hide ((Only.refl [] w).alloc (.cells (sc9 J A n c) 54))
  have CJ := fun W (o : Only [] w W) => rcheckjob_any J W (jb_only0 hJ o)
  have HE := hide hE
  unfold sc9 at B1 O1
  unfold jobV at CJ
  obtain ⟨X, hX⟩ : ∃ X, w.heap.size = X := ⟨_, rfl⟩
  rw [hX] at B1
  have x0 := B1.out.cell 0; have x1 := B1.out.cell 1; have x2 := B1.out.cell 2; have x3 := B1.out.cell 3; have x4 := B1.out.cell 4; have x5 := B1.out.cell 5; have x6 := B1.out.cell 6; have x7 := B1.out.cell 7; have x8 := B1.out.cell 8
  have hj2 : jobE J = 0 ∨ jobE J = 2 := by unfold jobE; split <;> simp
  unfold sc9
  by_cases j0 : jobE J = 0
  · rw [j0] at CJ
    have CJ := hide CJ
    have HC : chkE J n f = if 0 ≤ fb (badE f) n then (fb (badE f) n, 2) else if 8192 < n then (0, 3) else (0, 0) := by unfold chkE; rw [if_neg (by rw [j0]; simp)]
    have HC := hide HC
    clear hJ hE hj2 j0
    go_enter Tryz.func25, Tryz.ntmps25
    go_wp2_with (go_at_call 47; (with_reducible refine (CJ.out _ O1.out).mono ?_); rintro e w1 ⟨rfl, o⟩; have O2 := hide (O1.out.trans0 o); have B2 := hide (B1.out.only o (by simp)); clear o)
    clear x0 x1 x2 x3 x4 x5 x6 x7 x8 hX CJ
    go_loopw [4] (fun v4 wr => ∃ q : Nat, q ≤ n ∧ v4 = .int .i64 q ∧ Hid (∀ j, j < q → badE f j = false) ∧ Hid (Only [] w1 wr)) (fun v4 _ => n - (intOf v4).toNat)
    case atStart => exact ⟨0, by omega, rfl, hide (fun j hj => by omega), hide (Only.refl _ _)⟩
    case round =>
      obtain ⟨q, hq, rfl, hz, hO⟩ := hrel
      have x8 := (B2.out.only hO.out (by simp)).cell 8
      by_cases hqn : q < n
      · obtain ⟨a, rfl, e0, e1⟩ := HE.out q hqn
        have OW := hide (O2.out.trans0 hO.out)
        have c0 := OW.out.keep0 e0
        have c1 := OW.out.keep0 e1
        have MY := fun W => rmay_ev (f q).kind (f q).num W
        obtain ⟨b, hb⟩ : ∃ b, mayE ⟨(f q).kind, (f q).num⟩ = b := ⟨_, rfl⟩
        simp only [hb] at MY
        have MY := hide MY
        have HB := hide (show badE f q = !b by unfold badE; rw [← hb])
        have j0 : (0 : Int) ≤ (q : Int) := by omega
        have j1 : (q : Int) < (n : Int) := by omega
        clear e0 e1 hb
        cases b with
        | true =>
          go_wp2_with (go_at_call 14; (with_reducible refine (MY.out _).mono ?_); rintro e w2 ⟨rfl, o⟩; have ON := hide (hO.out.trans0 o); clear o)
          go_roundw
          case rel => exact ⟨q + 1, by omega, by go_num, hide (fun j hj => by
            rcases (by omega : j < q ∨ j = q) with h | h
            · exact hz.out j h
            · subst h; exact HB.out), ON⟩
          case measure => simp [intOf]; omega
        | false =>
          have hfb := hide (fb_at hqn HB.out hz.out)
          go_wp2_with (go_at_call 14; (with_reducible refine (MY.out _).mono ?_); rintro e w2 ⟨rfl, o⟩; have ON := hide (hO.out.trans0 o); clear o)
          go_ret2
          exact ⟨by rw [HC.out, hfb.out, if_pos (by omega)]; rfl, O2.out.trans0 ON.out⟩
      · obtain rfl : q = n := by omega
        have hfb := hide (fb_none hz.out)
        by_cases n0 : 8192 < q
        · have d1 : decide ((8192 : Int) < (q : Int)) = true := decide_eq_true (by omega)
          have d2 : decide (8192 < q) = true := decide_eq_true (by omega)
          have HN := hide n0
          clear n0
          go_wp2_with fail
          go_ret2
          exact ⟨by rw [HC.out, hfb.out, if_neg (by omega), if_pos HN.out]; rfl, O2.out.trans0 hO.out⟩
        · have d1 : decide ((8192 : Int) < (q : Int)) = false := decide_eq_false (by omega)
          have d2 : decide (8192 < q) = false := decide_eq_false (by omega)
          have HN := hide n0
          clear n0
          go_wp2_with fail
          go_ret2
          exact ⟨by rw [HC.out, hfb.out, if_neg (by omega), if_neg HN.out]; rfl, O2.out.trans0 hO.out⟩
  · have j2 : jobE J = 2 := by omega
    rw [j2] at CJ
    have CJ := hide CJ
    have HC := hide (show chkE J n f = (0, 2) by unfold chkE; rw [if_pos j0, j2])
    clear hJ hE hj2 j0 j2
    go_enter Tryz.func25, Tryz.ntmps25
    go_wp2_with (go_at_call 47; (with_reducible refine (CJ.out _ O1.out).mono ?_); rintro e w1 ⟨rfl, o⟩; have O2 := hide (O1.out.trans0 o); clear o)
    go_ret2
    exact ⟨by rw [HC.out]; rfl, O2.out⟩
end Go.Proofs.YteblhklclcjonaaGreatDoor
namespace Go.Proofs.YteblhklclcjonaaGreatDoor
open Go.RowKit
set_option linter.unusedVariables false
set_option linter.all false
set_option maxRecDepth 20000
attribute [local go_sem ↓] app_hide

def insT (f : Nat → Ins) : Nat → List (List UInt8)
  | 0 => []
  | r + 1 => insT f r ++ [lineB (f r)]
def prL (P : Nat → Pg) : Nat → List (List UInt8)
  | 0 => []
  | q + 1 => prL P q ++ progW :: insT (P q).f (P q).n
def txL (T : Nat → ByteArray) : Nat → List (List UInt8)
  | 0 => []
  | q + 1 => txL T q ++ [textW ++ 32 :: wordB (T q).data.toList]
/-- A job's lines. -/
def linesL (J : Jb) : List (List UInt8) := headB (v9 J) :: (prL J.P J.pn ++ txL J.T J.tn)
def joinT (l : List (List UInt8)) : List UInt8 := l.flatMap fun x => x ++ [10]
theorem joinT_append (a b : List (List UInt8)) : joinT (a ++ b) = joinT a ++ joinT b := by simp [joinT]
theorem insT_join (f : Nat → Ins) : ∀ n, joinT (insT f n) = listB f n
  | 0 => rfl
  | n + 1 => by unfold insT listB; rw [joinT_append, insT_join f n]; simp [joinT]
theorem prL_join (P : Nat → Pg) : ∀ n, joinT (prL P n) = progT P n
  | 0 => rfl
  | n + 1 => by
    unfold prL progT
    rw [joinT_append, prL_join P n]
    have e : joinT (progW :: insT (P n).f (P n).n) = progW ++ 10 :: joinT (insT (P n).f (P n).n) := by simp [joinT]
    rw [e, insT_join]
theorem txL_join (T : Nat → ByteArray) : ∀ n, joinT (txL T n) = textT T n
  | 0 => rfl
  | n + 1 => by unfold txL textT; rw [joinT_append, txL_join T n]; simp [joinT]
theorem linesL_join (J : Jb) : joinT (linesL J) = jobT J := by
  unfold linesL jobT
  have e : ∀ l, joinT (headB (v9 J) :: l) = headB (v9 J) ++ 10 :: joinT l := fun l => by simp [joinT]
  rw [e, joinT_append, prL_join, txL_join]
theorem insT_len (f : Nat → Ins) : ∀ n, (insT f n).length = n
  | 0 => rfl
  | n + 1 => by unfold insT; rw [List.length_append, insT_len f n]; rfl
theorem prL_len {P : Nat → Pg} : ∀ n, (∀ k, k < n → (P k).n ≤ 256) → (prL P n).length ≤ 257 * n
  | 0, _ => Nat.le_refl _
  | n + 1, h => by
    have h1 := prL_len n (fun k hk => h k (by omega))
    have h2 := h n (by omega)
    unfold prL
    rw [List.length_append, List.length_cons, insT_len]
    omega
theorem txL_len (T : Nat → ByteArray) : ∀ n, (txL T n).length = n
  | 0 => rfl
  | n + 1 => by unfold txL; rw [List.length_append, txL_len T n]; rfl
theorem qs_one {w : World} {B g : Nat} {s : ByteArray} (hB : B ≤ g) (h : Blk w g 9 #[.string s]) : Qs w B (some ⟨g, 0, none⟩) 1 [s] := by
  refine ⟨rfl, .inr ⟨g, 1, _, rfl, hB, h, Nat.le_refl _, by unfold maxLen; omega, rfl, rfl⟩⟩
theorem app_line (W : World) (B : Nat) (A : Option Addr) (c : Nat) (l : List (List UInt8)) (v : List UInt8) (hrow : Qs W B A c (l.map bs)) (hl : l.length ≤ 2000000) (hB : B ≤ W.heap.size) :
    ∃ g' c' w2, (AppH #[50, 50] 50 #[.slice A l.length c, .slice (some ⟨W.heap.size, 0, none⟩) 1 1]).run Tryz.prog (W.alloc (.cells #[.string (bs v)] 9)) = .ok (.slice (some ⟨g', 0, none⟩) (l.length + 1) c') w2 ∧
      Qs w2 B (some ⟨g', 0, none⟩) c' ((l ++ [v]).map bs) ∧ Only (blkOf A) W w2 := by
  obtain ⟨g', c', w2, h1, h2, h3⟩ := app_str W B A c (l.map bs) (bs v) hrow (by simpa using hl) hB
  rw [List.length_map] at h1
  exact ⟨g', c', w2, h1, by rw [List.map_append]; exact h2, h3⟩
/-- What the lines' walk keeps. -/
structure LnOk (J : Jb) (w W : World) (X : Nat) (A : Option Addr) (c : Nat) (l : List (List UInt8)) : Prop where
  q : Qs W (X + 1) A c (l.map bs)
  b : Blk W X 52 (jobV J)
  o : Only [] w W
  x : w.heap.size = X
theorem LnOk.lt {J : Jb} {w W : World} {X c : Nat} {A : Option Addr} {l : List (List UInt8)} (h : LnOk J w W X A c l) : X + 1 ≤ W.heap.size := h.b.lt
theorem LnOk.only0 {J : Jb} {w W V : World} {X c : Nat} {A : Option Addr} {l : List (List UInt8)} (h : LnOk J w W X A c l) (o : Only [] W V) : LnOk J w V X A c l := ⟨h.q.only0 o, h.b.only o (by simp), h.o.trans0 o, h.x⟩
theorem LnOk.app {J : Jb} {w W : World} {X c : Nat} {A : Option Addr} {l : List (List UInt8)} (h : LnOk J w W X A c l) (hl : l.length ≤ 2000000) (v : List UInt8) :
    ∃ g' c' w2, (AppH #[50, 50] 50 #[.slice A l.length c, .slice (some ⟨W.heap.size, 0, none⟩) 1 1]).run Tryz.prog (W.alloc (.cells #[.string (bs v)] 9)) = .ok (.slice (some ⟨g', 0, none⟩) (l.length + 1) c') w2 ∧
      LnOk J w w2 X (some ⟨g', 0, none⟩) c' (l ++ [v]) := by
  obtain ⟨g', c', w2, h1, h2, h3⟩ := app_line W (X + 1) A c l v h.q hl h.lt
  have hge := own_ge h.q
  exact ⟨g', c', w2, h1, h2, h.b.only h3 (fun hk => by have := (hge X hk).1; omega), h.o.trans h3 (fun k hk => .inr (by have := (hge k hk).1; have := h.x; omega)), h.x⟩
def L1 (J : Jb) (q : Nat) : List (List UInt8) := headB (v9 J) :: prL J.P q
def L2x (J : Jb) (q r : Nat) : List (List UInt8) := L1 J q ++ progW :: insT (J.P q).f r
def L3 (J : Jb) (q : Nat) : List (List UInt8) := L1 J J.pn ++ txL J.T q
theorem L2x_next (J : Jb) (q r : Nat) : L2x J q (r + 1) = L2x J q r ++ [lineB ((J.P q).f r)] := by simp [L2x, insT]
theorem L2x_zero (J : Jb) (q : Nat) : L2x J q 0 = L1 J q ++ [progW] := by simp [L2x, insT]
theorem L2x_all (J : Jb) (q : Nat) : L2x J q (J.P q).n = L1 J (q + 1) := by simp [L2x, L1, prL]
theorem L3_next (J : Jb) (q : Nat) : L3 J (q + 1) = L3 J q ++ [textW ++ 32 :: wordB (J.T q).data.toList] := by simp [L3, txL]
theorem L3_zero (J : Jb) : L3 J 0 = L1 J J.pn := by simp [L3, txL]
theorem L3_all (J : Jb) : L3 J J.tn = linesL J := by simp [L3, L1, linesL]
theorem L1_len {J : Jb} (h : GoodJ J) {q : Nat} (hq : q ≤ J.pn) : (L1 J q).length ≤ 9000 := by
  have h1 := prL_len (P := J.P) q (fun k hk => (h.prog k (by omega)).len)
  have h3 := (h.rows 6 (by omega)).2
  simp only [v9, hi9] at h3
  unfold L1
  rw [List.length_cons]
  omega
theorem L2x_len {J : Jb} (h : GoodJ J) {q r : Nat} (hq : q < J.pn) (hr : r ≤ (J.P q).n) : (L2x J q r).length ≤ 10000 := by
  have h1 := L1_len h (Nat.le_of_lt hq)
  have h2 := (h.prog q hq).len
  unfold L2x
  rw [List.length_append, List.length_cons, insT_len]
  omega
theorem L3_len {J : Jb} (h : GoodJ J) {q : Nat} (hq : q ≤ J.tn) : (L3 J q).length ≤ 10000 := by
  have h1 := L1_len h (Nat.le_refl J.pn)
  have h3 := (h.rows 7 (by omega)).2
  simp only [v9, hi9] at h3
  unfold L3
  rw [List.length_append, txL_len]
  omega
set_option maxHeartbeats 16000000 in
theorem rlines_any (J : Jb) (w : World) (he : Env w) (hJ : JbAt w J) (hg : GoodJ J) : Calls Tryz.prog 27 #[.agg (jobV J)] w fun e w' => (∃ A c, e = .returned (.slice A (linesL J).length c) ∧ Qs w' (w.heap.size + 1) A c ((linesL J).map bs)) ∧ Only [] w w' := by
  have hb6 : ∀ q, q < 6 → -9223372036854775808 ≤ v9 J q ∧ v9 J q ≤ 9223372036854775807 := fun q hq => by
    have := hg.rows q (by omega)
    rcases (by omega : q = 0 ∨ q = 1 ∨ q = 2 ∨ q = 3 ∨ q = 4 ∨ q = 5) with h | h | h | h | h | h <;> subst h <;> simp only [lo9, hi9] at this <;> omega
  have HD := fun W (o : Only [] w W) => rhead_any (v9 J) hb6 (.slice J.pA J.pn J.pc) (.slice J.tA J.tn J.tc) W (he.only o)
  obtain ⟨s0, hs0⟩ : ∃ x, bs (headB (v9 J)) = x := ⟨_, rfl⟩
  rw [hs0] at HD
  have HD := hide HD
  unfold job8 at HD
  simp only [v9] at HD
  have HJ := hide hJ
  have HG := hide hg
  have HE := hide he
  have hpn := (hg.rows 6 (by omega)).2
  have htn := (hg.rows 7 (by omega)).2
  simp only [v9, hi9] at hpn htn
  have B1 := hide (Blk.new w 52 (jobV J))
  have O1 := hide ((Only.refl [] w).alloc (.cells (jobV J) 52))
  have B1' := B1.out
  unfold jobV at B1' O1
  unfold jobV
  obtain ⟨X, hX⟩ : ∃ X, w.heap.size = X := ⟨_, rfl⟩
  rw [hX] at B1 B1' ⊢
  have x0 := B1'.cell 0; have x1 := B1'.cell 1; have x2 := B1'.cell 2; have x3 := B1'.cell 3; have x4 := B1'.cell 4; have x5 := B1'.cell 5; have x6 := B1'.cell 6; have x7 := B1'.cell 7
  have HS0 := hide hs0
  clear he hJ hg hb6 hs0 B1'
  go_enter Tryz.func27, Tryz.ntmps27
  go_wp2_with (go_at_call 49; (with_reducible refine (HD.out _ O1.out).mono ?_); rintro e w1 ⟨rfl, o⟩; have LK := hide (show LnOk J w (w1.alloc (.cells #[.string s0] 9)) X (some ⟨w1.heap.size, 0, none⟩) 1 (L1 J 0) from ⟨by rw [show (L1 J 0).map bs = [s0] from by rw [← HS0.out]; rfl]; exact qs_one (by have := o.size; have := O1.out.size; have := (B1.out.only o (by simp)).lt; omega) (Blk.new w1 9 _), (B1.out.only o (by simp)).alloc _, (O1.out.trans0 o).alloc _, hX⟩); clear o)
  obtain ⟨V, hV⟩ : ∃ V, w1.alloc (.cells #[.string s0] 9) = V := ⟨_, rfl⟩
  obtain ⟨N, hN⟩ : ∃ N, w1.heap.size = N := ⟨_, rfl⟩
  rw [hN] at LK ⊢
  rw [hV] at LK ⊢
  clear hV hN hX x0 x1 x2 x3 x4 x5 x6 x7 B1 O1 HD HS0
  go_loopw [3, 4] (fun v3 v4 wr => ∃ (q : Nat) (A : Option Addr) (c : Nat), q ≤ J.pn ∧ v3 = .slice A (L1 J q).length c ∧ v4 = .int .i64 q ∧ Hid (LnOk J w wr X A c (L1 J q))) (fun _ v4 _ => J.pn - (intOf v4).toNat)
  case atStart => exact ⟨0, _, _, by omega, rfl, rfl, LK⟩
  case round =>
    clear LK
    obtain ⟨q, A, c, hq, rfl, rfl, hL⟩ := hrel
    have b6 := hL.out.b
    unfold jobV at b6
    have x6 := b6.cell 6
    by_cases hqn : q < J.pn
    · have j0 : (0 : Int) ≤ (q : Int) := by omega
      have j1 : (q : Int) < (J.pn : Int) := by omega
      have hal := L1_len HG.out hq
      obtain ⟨gA, cA, w2, hrun, hL2⟩ := hL.out.app (by omega) progW
      have hrun : (AppH #[50, 50] 50 #[.slice A (L1 J q).length c, .slice (some ⟨wr.heap.size, 0, none⟩) 1 1]).run Tryz.prog (wr.alloc (.cells #[.string ⟨#[112, 114, 111, 103, 114, 97, 109]⟩] 9)) = .ok (.slice (some ⟨gA, 0, none⟩) ((L1 J q).length + 1) cA) w2 := hrun
      have hle : (L2x J q 0).length = (L1 J q).length + 1 := by rw [L2x_zero]; simp
      rw [← hle] at hrun
      rw [← L2x_zero] at hL2
      have HL2 := hide hL2
      clear hL2 hle hal b6
      go_wp2_with fail
      clear x6 hrun hL
      go_loopw [3, 5] (fun v3 v5 wr => ∃ (r : Nat) (A : Option Addr) (c : Nat), r ≤ (J.P q).n ∧ v3 = .slice A (L2x J q r).length c ∧ v5 = .int .i64 r ∧ Hid (LnOk J w wr X A c (L2x J q r))) (fun _ v5 _ => (J.P q).n - (intOf v5).toNat)
      case atStart => exact ⟨0, _, _, Nat.zero_le _, rfl, rfl, HL2⟩
      case round =>
        clear HL2
        obtain ⟨r, A, c, hr, rfl, rfl, hL⟩ := hrel
        have b6 := hL.out.b
        unfold jobV at b6
        have x6 := b6.cell 6
        obtain ⟨a, hpa, e0, e1, e2⟩ := HJ.out.1 q hqn
        rw [hpa] at x6
        have c0 := hL.out.o.keep0 e0
        unfold maxLen at e1
        by_cases hrn : r < (J.P q).n
        · obtain ⟨a2, hpa2, g0, g1, g2, g3, g4⟩ := e2 r hrn
          rw [hpa2] at c0
          have k0 := hL.out.o.keep0 g0
          have k1 := hL.out.o.keep0 g1
          have k2 := hL.out.o.keep0 g2
          have k3 := hL.out.o.keep0 g3
          have k4 := hL.out.o.keep0 g4
          have hgp := HG.out.prog q hqn
          have him := hgp.imm r hrn
          have LN := rline_any ((J.P q).f r) wr (HE.out.only hL.out.o) (hgp.may256 hrn) him.1 him.2
          unfold insV at LN
          have hl2 := L2x_len HG.out hqn hr
          obtain ⟨sl, hsl⟩ : ∃ x, bs (lineB ((J.P q).f r)) = x := ⟨_, rfl⟩
          rw [hsl] at LN
          have LN := hide LN
          have HSL := hide hsl
          have j2 : (0 : Int) ≤ (r : Int) := by omega
          have j3 : (r : Int) < ((J.P q).n : Int) := by omega
          clear e0 e2 g0 g1 g2 g3 g4 hgp him hpa hpa2 b6 hsl
          go_wp2_with (go_at_call 50; (with_reducible refine LN.out.mono ?_); rintro e w3 ⟨rfl, o⟩; obtain ⟨gB, cB, w4, hrun, hL4⟩ := (hL.out.only0 o).app (by omega) (lineB ((J.P q).f r)); rw [HSL.out] at hrun; rw [← L2x_next] at hL4; have hle : (L2x J q (r + 1)).length = (L2x J q r).length + 1 := (by rw [L2x_next]; simp); rw [← hle] at hrun; have HL4 := hide hL4; clear o hL4 hle)
          go_roundw
          case rel => exact ⟨r + 1, _, _, by omega, rfl, by go_num, HL4⟩
          case measure => simp [intOf]; omega
        · obtain hrn2 : r = (J.P q).n := by omega
          subst hrn2
          have HL5 := hide (show LnOk J w wr X A c (L1 J (q + 1)) by rw [← L2x_all]; exact hL.out)
          have hle := hide (show (L2x J q (J.P q).n).length = (L1 J (q + 1)).length by rw [L2x_all])
          clear hL hrn e0 e2 b6
          go_wp2_with fail
          go_roundw
          case rel => exact ⟨q + 1, A, c, by omega, by rw [hle.out], by go_num, HL5⟩
          case measure => simp [intOf]; omega
    · obtain rfl : q = J.pn := by omega
      have HL := hide (show LnOk J w wr X A c (L3 J 0) by rw [L3_zero]; exact hL.out)
      clear hL hqn hq b6
      go_wp2_with fail
      clear x6
      rw [← L3_zero]
      go_loopw [3, 6] (fun v3 v6 wr => ∃ (q : Nat) (A : Option Addr) (c : Nat), q ≤ J.tn ∧ v3 = .slice A (L3 J q).length c ∧ v6 = .int .i64 q ∧ Hid (LnOk J w wr X A c (L3 J q))) (fun _ v6 _ => J.tn - (intOf v6).toNat)
      case atStart => exact ⟨0, _, _, by omega, rfl, rfl, HL⟩
      case round =>
        clear HL
        obtain ⟨q, A, c, hq, rfl, rfl, hL⟩ := hrel
        have b6 := hL.out.b
        unfold jobV at b6
        have x7 := b6.cell 7
        by_cases hqn : q < J.tn
        · obtain ⟨a, hpa, e0⟩ := HJ.out.2.1 q hqn
          rw [hpa] at x7
          have c0 := hL.out.o.keep0 e0
          have j0 : (0 : Int) ≤ (q : Int) := by omega
          have j1 : (q : Int) < (J.tn : Int) := by omega
          have htl := HG.out.text q hqn
          have hsz : (J.T q).data.toList.length = (J.T q).size := sz_list _
          have hwl := (wordB_facts (J.T q).data.toList).2
          have hal := L3_len HG.out hq
          have WO := fun W => rword_any (J.T q).data.toList (by omega) W
          rw [bs_of] at WO
          have hst := hide (L3_next J q)
          obtain ⟨wb, hwb⟩ : ∃ x, wordB (J.T q).data.toList = x := ⟨_, rfl⟩
          obtain ⟨tq, htq⟩ : ∃ x, J.T q = x := ⟨_, rfl⟩
          rw [hwb] at WO hwl hst
          rw [htq] at WO c0
          have hcat : (⟨#[116, 101, 120, 116, 32]⟩ : ByteArray) ++ bs wb = bs (textW ++ 32 :: wb) := bs_cat [116, 101, 120, 116, 32] wb
          have z1 : ¬ 9223372036854775807 < (⟨#[116, 101, 120, 116, 32]⟩ : ByteArray).size + (bs wb).size := by rw [bs_size, show (⟨#[116, 101, 120, 116, 32]⟩ : ByteArray).size = 5 from rfl]; omega
          obtain ⟨sl, hsl⟩ : ∃ x, bs wb = x := ⟨_, rfl⟩
          obtain ⟨s3, hs3⟩ : ∃ x, bs (textW ++ 32 :: wb) = x := ⟨_, rfl⟩
          rw [hsl] at WO hcat z1
          rw [hs3] at hcat
          have HS3 := hide hs3
          have WO := hide WO
          clear e0 hpa htl hsz hwl b6 hsl hs3 hwb htq
          go_wp2_with (go_at_call 51; (with_reducible refine (WO.out _).mono ?_); rintro e w3 ⟨rfl, o⟩; obtain ⟨gB, cB, w4, hrun, hL4⟩ := (hL.out.only0 o).app (by omega) (textW ++ 32 :: wb); rw [HS3.out] at hrun; rw [← hst.out] at hL4; have hle : (L3 J (q + 1)).length = (L3 J q).length + 1 := (by rw [hst.out]; simp); rw [← hle] at hrun; have HL4 := hide hL4; clear o hL4 hle)
          go_roundw
          case rel => exact ⟨q + 1, _, _, by omega, rfl, by go_num, HL4⟩
          case measure => simp [intOf]; omega
        · obtain rfl : q = J.tn := by omega
          have HF := hide (show LnOk J w wr X A c (linesL J) by rw [← L3_all]; exact hL.out)
          have hle := hide (show (L3 J J.tn).length = (linesL J).length by rw [L3_all])
          clear hL hqn hq b6
          go_wp2_with fail
          go_ret
          exact ⟨⟨A, c, by rw [← hle.out]; rfl, HF.out.q⟩, HF.out.o⟩
end Go.Proofs.YteblhklclcjonaaGreatDoor
namespace Go.Proofs.YteblhklclcjonaaGreatDoor
open Go.RowKit Go.Shelf
set_option linter.unusedVariables false
set_option linter.all false
set_option maxRecDepth 20000
attribute [local go_sem ↓] app_hide

theorem own_setN {w : World} {B n c g size : Nat} {e : TypeId} {xs : List Value} (h : w.ownsRow B e size (.slice (some ⟨g, 0, none⟩) n c) n xs) (j : Nat) (v : Value) (hj : j < n * size) : (w.setCell ⟨g, j, none⟩ v).ownsRow B e size (.slice (some ⟨g, 0, none⟩) n c) n (xs.set j v) := by
  rcases h.2 with ⟨hv, _⟩ | ⟨g', cap, cur, hv, hb, hg, hn, hm, hs, ht⟩
  · simp at hv
  · simp only [Value.slice.injEq, Option.some.injEq, Addr.mk.injEq] at hv
    obtain ⟨⟨rfl, _⟩, _, rfl⟩ := hv
    refine ⟨by simpa using h.1, .inr ⟨g, c, cur.setIfInBounds j v, rfl, hb, Blk.set_ (t := e) hg j v, hn, hm, by simpa using hs, ?_⟩⟩
    rw [Array.toList_setIfInBounds, ← ht, List.take_set]
theorem strF_n : ∀ (l : List Ev), ∀ x ∈ strF l, (x.n : Int) ≤ l.length
  | [], x, hx => by cases hx
  | e :: r, x, hx => by
    have ih := strF_n r
    cases he : mayE e with
    | false => rw [strF_bad he] at hx; cases hx
    | true =>
      rw [strF_cons he] at hx
      simp only [List.length_cons]
      cases hs : strF r with
      | nil =>
        rw [hs] at hx
        simp only [joinS, List.mem_cons, List.not_mem_nil, or_false] at hx
        subst hx
        simp only; omega
      | cons y ys =>
        rw [hs] at hx ih
        by_cases hc : e.kind ≠ 3 ∧ y.ev = e
        · rw [joinS_same _ hc.1 hc.2] at hx
          rcases List.mem_cons.1 hx with rfl | hx
          · have h1 := ih y (by simp)
            simp only; omega
          · have h1 := ih x (by simp [hx])
            omega
        · rw [joinS_other _ hc] at hx
          rcases List.mem_cons.1 hx with rfl | hx
          · simp only; omega
          · have h1 := ih x hx
            omega
theorem evL_succ (n : Nat) (f : Nat → Ev) : evL (n + 1) f = evL n f ++ [f n] := by simp [evL, List.range_succ]
theorem StV_len (l : List Str) : (StV l).length = l.length * 3 := by
  induction l with
  | nil => rfl
  | cons x l ih =>
    have e : StV (x :: l) = .int .i64 x.ev.kind :: .int .i64 x.ev.num :: .int .i64 x.n :: StV l := by simp [StV]
    rw [e]
    simp only [List.length_cons, ih]
    omega
theorem StV_bump (xs : List Str) (x : Str) (m : Int) : (StV (xs ++ [x])).set (xs.length * 3 + 2) (.int .i64 m) = StV (xs ++ [⟨x.ev, m⟩]) := by
  rw [StV_append, StV_append, List.set_append_right _ _ (by rw [StV_len]; omega), StV_len, show xs.length * 3 + 2 - xs.length * 3 = 2 by omega]
  rfl
theorem evL_stop {n : Nat} {f : Nat → Ev} {i : Nat} (hi : i ≤ n) (hall : ∀ j, j < i → mayE (f j) = true) (h : i = n ∨ mayE (f i) = false) : strF (evL n f) = strF (evL i f) := by
  have hs : evL n f = evL i f ++ (evL n f).drop i := by
    apply List.ext_getElem?
    intro j
    by_cases hj : j < i
    · rw [List.getElem?_append_left (by rw [evL_len]; exact hj), evL_get hj, evL_get (by omega)]
    · rw [List.getElem?_append_right (by rw [evL_len]; omega), List.getElem?_drop, evL_len, show i + (j - i) = j by omega]
  have hd : strF ((evL n f).drop i) = [] := strF_stop (by rcases h with h | h; exact .inl (by omega); exact .inr h)
  rw [hs]
  have key : ∀ a : List Ev, (∀ e ∈ a, mayE e = true) → ∀ b, strF b = [] → strF (a ++ b) = strF a := by
    intro a
    induction a with
    | nil => intro _ b hb; exact hb
    | cons e a ih =>
      intro ha b hb
      rw [List.cons_append, strF_cons (ha e (by simp)), strF_cons (ha e (by simp)), ih (fun x hx => ha x (by simp [hx])) b hb]
  refine key _ ?_ _ hd
  intro e he
  unfold evL at he
  obtain ⟨j, hj, rfl⟩ := List.mem_map.1 he
  exact hall j (List.mem_range.1 hj)
theorem evL_all {i : Nat} {f : Nat → Ev} (hall : ∀ j, j < i → mayE (f j) = true) : ∀ e ∈ evL i f, mayE e = true := by
  intro e he
  unfold evL at he
  obtain ⟨j, hj, rfl⟩ := List.mem_map.1 he
  exact hall j (List.mem_range.1 hj)
set_option maxHeartbeats 8000000 in
theorem rstrs_any (A : Option Addr) (n c : Nat) (f : Nat → Ev) (w : World) (hn : n ≤ 1000000) (hE : EvAt w A n f) : Calls Tryz.prog 16 #[.slice A n c] w fun e w' => (∃ B d, e = .returned (.slice B (strF (evL n f)).length d) ∧ Ss w' w.heap.size B d (strF (evL n f))) ∧ Only [] w w' := by
  have HE := hide hE
  obtain ⟨L, hL⟩ : ∃ L, strF (evL n f) = L := ⟨_, rfl⟩
  rw [hL]
  have HL := hide hL
  clear hE hL
  go_enter Tryz.func16, Tryz.ntmps16
  go_wp2_with fail
  go_loopw [3, 4] (fun vo vi wr => ∃ (i : Nat) (l : List Str) (B : Option Addr) (d : Nat), i ≤ n ∧ vo = .slice B l.length d ∧ vi = .int .i64 i ∧ Hid (l = strF (evL i f)) ∧ Hid (∀ j, j < i → mayE (f j) = true) ∧ Hid (Ss wr w.heap.size B d l) ∧ Hid (Only [] w wr)) (fun _ vi _ => n - (intOf vi).toNat)
  case atStart => exact ⟨0, [], none, 0, Nat.zero_le _, rfl, rfl, hide rfl, hide (fun j hj => by omega), hide (World.ownsRow_nil ..), hide (Only.refl _ _)⟩
  case round =>
    obtain ⟨i, l, B, d, hi, rfl, rfl, hl, hall, hS, hO⟩ := hrel
    by_cases hlt : i < n
    · obtain ⟨a, eA, e0, e1⟩ := (HE.out.only0 hO.out) i hlt
      subst eA
      have j0 : (0 : Int) ≤ (i : Int) := by omega
      have j1 : (i : Int) < (n : Int) := by omega
      have MY := fun V => rmay_ev (f i).kind (f i).num V
      obtain ⟨ki, hki⟩ : ∃ x, (f i).kind = x := ⟨_, rfl⟩
      obtain ⟨mi, hmi⟩ : ∃ x, (f i).num = x := ⟨_, rfl⟩
      have hfi : f i = ⟨ki, mi⟩ := by rw [← hki, ← hmi]
      rw [hki, hmi] at MY
      rw [hki] at e0
      rw [hmi] at e1
      cases hm : mayE ⟨ki, mi⟩ with
      | false =>
        rw [hm] at MY
        have MY := hide MY
        have hend : L = l := by rw [← HL.out, hl.out]; exact evL_stop (by omega) hall.out (.inr (by rw [hfi]; exact hm))
        clear hki hmi hfi hm
        go_wp2_with (go_at_call 14; (with_reducible refine (MY.out _).mono ?_); rintro e w2 ⟨rfl, o2⟩; have O2 := hide o2; clear o2)
        go_ret
        exact ⟨⟨B, d, by rw [hend]; rfl, by rw [hend]; exact hS.out.only0 O2.out⟩, hO.out.trans0 O2.out⟩
      | true =>
        rw [hm] at MY
        have MY := hide MY
        have HFI := hide hfi
        have HM := hide hm
        clear hki hmi hfi hm
        go_wp2_with (go_at_call 14; (with_reducible refine (MY.out _).mono ?_); rintro e w2 ⟨rfl, o2⟩; have HS2 := hide (hS.out.only0 o2); have HO2 := hide (hO.out.trans0 o2); clear o2)
        have HALL2 := hide (show ∀ j, j < i + 1 → mayE (f j) = true by
          intro j hj
          by_cases hji : j < i
          · exact hall.out j hji
          · rw [show j = i by omega, HFI.out]; exact HM.out)
        have HSN0 := hide (fun (h : ∀ x, l.getLast? = some x → ki ≠ 3 → x.ev ≠ ⟨ki, mi⟩) => show l ++ [⟨⟨ki, mi⟩, 1⟩] = strF (evL (i + 1) f) by
          rw [evL_succ, HFI.out, strF_snoc_other HM.out (evL_all hall.out) (by rw [← hl.out]; exact h), ← hl.out])
        clear hS hO
        by_cases hln : l = []
        · have HSN := hide (HSN0.out (fun x hx => by rw [hln] at hx; cases hx))
          have hl0 : ¬ (0 : Int) < (l.length : Int) := by rw [hln]; simp
          have hl0d : decide ((0 : Int) < (l.length : Int)) = false := decide_eq_false hl0
          have hl0n : decide (0 < l.length) = false := by rw [hln]; rfl
          clear hln HSN0
          go_quiet (fail)
          have oq := (Only.refl [] w2).drewN nq
          have hS9 := HS2.out.only0 oq
          have hO9 := hide (HO2.out.trans0 oq)
          have hE9 := HE.out.only0 hO9.out
          generalize w2.drewN nq = w9 at hS9 hO9 hE9 ⊢
          obtain ⟨a5, eA, e0, e1⟩ := hE9 i hlt
          injection eA with eA
          subst eA
          rw [HFI.out] at e0 e1
          simp only at e0 e1
          have hll : l.length ≤ 2000000 := by rw [hl.out]; have := strF_len (evL i f); rw [evL_len] at this; omega
          obtain ⟨g', c', w3, hrun, hS3, o3, hgg⟩ := app_st w9 w.heap.size B d l ⟨⟨ki, mi⟩, 1⟩ hS9 hll (by have := hO9.out.size; omega)
          have HS3 := hide hS3
          have hge := own_ge hS9
          have HO3 := hide (hO9.out.trans o3 (fun x hx => .inr (hge x hx).1))
          simp only at hrun
          clear hS3 hS9 hge o3 oq hE9 hgg
          go_wp2_with fail
          go_roundw
          case rel => exact ⟨i + 1, l ++ [⟨⟨ki, mi⟩, 1⟩], some ⟨g', 0, none⟩, c', by omega, (by simp <;> omega), by go_num, HSN, HALL2, HS3, HO3⟩
          case measure => simp [intOf]; omega
        · obtain ⟨xs, x, hxs⟩ := snoc_of hln
          obtain ⟨p, hp⟩ : ∃ p, xs.length = p := ⟨_, rfl⟩
          have hlp : l.length = p + 1 := by rw [hxs, List.length_append, hp]; rfl
          have hp1 : (l.length : Int) - 1 = (p : Int) := by omega
          have hp2 : ((p + 1 : Nat) : Int) - 1 = (p : Int) := by omega
          have hp3 : (p : Int) + 1 - 1 = (p : Int) := by omega
          have hl0 : (0 : Int) < ((p + 1 : Nat) : Int) := by omega
          have hl0d : decide ((0 : Int) < ((p + 1 : Nat) : Int)) = true := decide_eq_true hl0
          have hpl : p ≤ 1000000 := by have := strF_len (evL i f); rw [evL_len, ← hl.out] at this; omega
          obtain ⟨gB, rfl, b0, b1, b2⟩ := HS2.out.cells (k := p) (x := x) (by rw [hxs, ← hp, List.getElem?_append_right (Nat.le_refl _)]; simp)
          have f2 : w2.frozen? ⟨gB, p * 3 + 2, none⟩ = false := by obtain ⟨g0, e, _, h2⟩ := own_cell HS2.out (by omega); injection e with e; injection e with e _; subst e; exact h2 _
          have e0 := hide ((HE.out.only0 HO2.out) i hlt)
          obtain ⟨a5, eA, e0, e1⟩ := e0.out
          injection eA with eA
          subst eA
          rw [HFI.out] at e0 e1
          simp only at e0 e1
          have q0 : (0 : Int) ≤ (p : Int) := by omega
          have q1 : (p : Int) < ((p + 1 : Nat) : Int) := by omega
          have q1b : p < p + 1 := by omega
          rw [hlp]
          by_cases k3 : ki = 3
          · have HSN := hide (HSN0.out (fun x hx h => absurd k3 h))
            have b3 : (ki != 3) = false := by simpa using k3
            clear HSN0 b0 b1 b2 f2 k3
            go_quiet (fail)
            have oq := (Only.refl [] w2).drewN nq
            have hS9 := HS2.out.only0 oq
            have hO9 := hide (HO2.out.trans0 oq)
            have hE9 := HE.out.only0 hO9.out
            generalize w2.drewN nq = w9 at hS9 hO9 hE9 ⊢
            obtain ⟨a5, eA, e0, e1⟩ := hE9 i hlt
            injection eA with eA
            subst eA
            rw [HFI.out] at e0 e1
            simp only at e0 e1
            have hll : l.length ≤ 2000000 := by rw [hl.out]; have := strF_len (evL i f); rw [evL_len] at this; omega
            obtain ⟨g', c', w3, hrun, hS3, o3, hgg⟩ := app_st w9 w.heap.size (some ⟨gB, 0, none⟩) d l ⟨⟨ki, mi⟩, 1⟩ hS9 hll (by have := hO9.out.size; omega)
            have HS3 := hide hS3
            have hge := own_ge hS9
            have HO3 := hide (hO9.out.trans o3 (fun x hx => .inr (hge x hx).1))
            simp only at hrun
            rw [hlp] at hrun
            clear hS3 hS9 hge o3 oq hE9 hgg
            go_wp2_with fail
            go_roundw
            case rel => exact ⟨i + 1, l ++ [⟨⟨ki, mi⟩, 1⟩], some ⟨g', 0, none⟩, c', by omega, (by simp <;> omega), by go_num, HSN, HALL2, HS3, HO3⟩
            case measure => simp [intOf]; omega
          · have b3 : (ki != 3) = true := by simpa using k3
            have EQ := fun V => eqEv x.ev.kind x.ev.num ki mi V
            by_cases hxe : x.ev = ⟨ki, mi⟩
            · have t1 : (x.ev.kind == ki && x.ev.num == mi) = true := by rw [hxe]; simp
              rw [t1] at EQ
              have HSN := hide (show xs ++ [⟨⟨ki, mi⟩, x.n + 1⟩] = strF (evL (i + 1) f) by
                rw [evL_succ, HFI.out]
                exact (strF_snoc_same k3 HM.out hxe (evL i f) xs (evL_all hall.out) (by rw [← hl.out]; exact hxs)).symm)
              have hxn := strF_n (evL i f) x (by rw [← hl.out, hxs]; simp)
              have hxg := strF_ge (evL i f) x (by rw [← hl.out, hxs]; simp)
              rw [evL_len] at hxn
              have HXS := hide hxs
              have HXE := hide hxe
              have HPL := hide hp
              clear HSN0 t1 hxs hxe hp
              go_quiet (fail)
              have oq := (Only.refl [] w2).drewN nq
              have hS9 := HS2.out.only0 oq
              have hO9 := hide (HO2.out.trans0 oq)
              generalize w2.drewN nq = w9 at hS9 hO9 ⊢
              clear b0 b1 b2 f2 EQ e0 e1 oq
              obtain ⟨gB', eB, b0, b1, b2⟩ := hS9.cells (k := p) (x := x) (by rw [HXS.out, ← HPL.out, List.getElem?_append_right (Nat.le_refl _)]; simp)
              injection eB with eB
              injection eB with eB _
              subst eB
              have f2 : w9.frozen? ⟨gB, p * 3 + 2, none⟩ = false := by obtain ⟨g0, e, _, h2⟩ := own_cell hS9 (by omega); injection e with e; injection e with e _; subst e; exact h2 _
              have HS3 := hide (show Ss (w9.setCell ⟨gB, p * 3 + 2, none⟩ (.int .i64 (x.n + 1))) w.heap.size (some ⟨gB, 0, none⟩) d (xs ++ [⟨⟨ki, mi⟩, x.n + 1⟩]) by
                have h1 := own_setN hS9 (p * 3 + 2) (.int .i64 (x.n + 1)) (by omega)
                have e2 : (StV l).set (p * 3 + 2) (.int .i64 (x.n + 1)) = StV (xs ++ [⟨⟨ki, mi⟩, x.n + 1⟩]) := by rw [HXS.out, ← HPL.out, StV_bump, HXE.out]
                rw [e2] at h1
                have e3 : (xs ++ [⟨⟨ki, mi⟩, x.n + 1⟩] : List Str).length = l.length := by rw [HXS.out]; simp
                unfold Ss
                rw [e3]
                exact h1)
              have hge := own_ge hS9 gB (by simp [blkOf])
              have HO3 := hide (hO9.out.setCell (p := ⟨gB, p * 3 + 2, none⟩) (.inr hge.1) (.int .i64 (x.n + 1)))
              clear hS9 hge b0 b1
              go_wp2_with fail
              go_roundw
              case rel => exact ⟨i + 1, xs ++ [⟨⟨ki, mi⟩, x.n + 1⟩], some ⟨gB, 0, none⟩, d, by omega, (by simp [HPL.out]), by go_num, HSN, HALL2, HS3, HO3⟩
              case measure => simp [intOf]; omega
            · have t1 : (x.ev.kind == ki && x.ev.num == mi) = false := by
                rw [Bool.eq_false_iff]
                intro h
                simp at h
                apply hxe
                cases hh : x.ev with
                | mk a b => rw [hh] at h; simp at h; rw [h.1, h.2]
              rw [t1] at EQ
              have HSN := hide (HSN0.out (fun y hy _ => by rw [hxs, List.getLast?_concat] at hy; injection hy with hy; rw [← hy]; exact hxe))
              clear HSN0 f2 hxe t1
              go_quiet (fail)
              clear b0 b1 b2 EQ
              have oq := (Only.refl [] w2).drewN nq
              have hS9 := HS2.out.only0 oq
              have hO9 := hide (HO2.out.trans0 oq)
              have hE9 := HE.out.only0 hO9.out
              generalize w2.drewN nq = w9 at hS9 hO9 hE9 ⊢
              obtain ⟨a5, eA, e0, e1⟩ := hE9 i hlt
              injection eA with eA
              subst eA
              rw [HFI.out] at e0 e1
              simp only at e0 e1
              have hll : l.length ≤ 2000000 := by rw [hl.out]; have := strF_len (evL i f); rw [evL_len] at this; omega
              obtain ⟨g', c', w3, hrun, hS3, o3, hgg⟩ := app_st w9 w.heap.size (some ⟨gB, 0, none⟩) d l ⟨⟨ki, mi⟩, 1⟩ hS9 hll (by have := hO9.out.size; omega)
              have HS3 := hide hS3
              have hge := own_ge hS9
              have HO3 := hide (hO9.out.trans o3 (fun x hx => .inr (hge x hx).1))
              simp only at hrun
              rw [hlp] at hrun
              clear hS3 hS9 hge o3 oq hE9 hgg
              go_wp2_with fail
              go_roundw
              case rel => exact ⟨i + 1, l ++ [⟨⟨ki, mi⟩, 1⟩], some ⟨g', 0, none⟩, c', by omega, (by simp <;> omega), by go_num, HSN, HALL2, HS3, HO3⟩
              case measure => simp [intOf]; omega
    · obtain rfl : i = n := by omega
      have hend : L = l := by rw [← HL.out, hl.out]
      go_wp2_with fail
      go_ret
      exact ⟨⟨B, d, by rw [hend]; rfl, by rw [hend]; exact hS.out⟩, hO.out⟩
end Go.Proofs.YteblhklclcjonaaGreatDoor
namespace Go.Proofs.YteblhklclcjonaaGreatDoor
open Go.RowKit Go.Lib
set_option linter.unusedVariables false
set_option linter.all false
set_option maxRecDepth 20000
attribute [local go_sem ↓] app_hide

theorem strCells_bs (x : List UInt8) : strCells (bs x) = U8s x := by simp [strCells, U8s, bs, U8]
theorem app_bstr (W : World) (B : Nat) (A : Option Addr) (c : Nat) (l x : List UInt8) (hrow : Us W B A c l) (hl : l.length + x.length ≤ 140737488355328) (hB : B ≤ W.heap.size) :
    ∃ A' c' w2, (AppH #[68, 9] 68 #[.slice A l.length c, .string (bs x)]).run Tryz.prog W = .ok (.slice A' (l ++ x).length c') w2 ∧ Us w2 B A' c' (l ++ x) ∧ Only (blkOf A) W w2 := by
  obtain ⟨i0, hi, hz0, hz1, hz2⟩ := info_parts info5
  obtain ⟨v', w2, hrun, hown, hg, hnil⟩ := run_append_own_string (P := Tryz.prog) W B 68 9 68 5 i0 Tryz.underlying68 Tryz.underlying9 hi hz0 hz1 hz2 (.slice A l.length c) l.length (U8s l) hrow (bs x) (by rw [bs_size]; unfold maxLen; omega) (by rw [bs_size]; omega) hB
  rw [app_hide] at hrun
  rw [strCells_bs, ← U8s_append, bs_size] at hown
  obtain ⟨A', c', rfl⟩ : ∃ A' c', v' = .slice A' (l.length + x.length) c' := by
    rcases hown.2 with ⟨hv, h0⟩ | ⟨g, cap, cur, hv, _⟩
    · exact ⟨none, 0, by rw [hv, h0]⟩
    · exact ⟨_, _, hv⟩
  refine ⟨A', c', w2, by rw [List.length_append]; exact hrun, by unfold Us; rw [List.length_append]; exact hown, (Only.refl (blkOf A) W).grown hg (fun k hk => .inl ?_)⟩
  rcases A with _ | a
  · simp [Value.ownBlock] at hk
  · simp only [Value.ownBlock, Option.some.injEq] at hk
    simp [blkOf, hk]
def LLs (J : Jb) (n : Nat) (f : Nat → Ev) : List (List UInt8) := linesL J ++ (strF (evL n f)).map lineT
theorem LLs_join (J : Jb) (n : Nat) (f : Nat → Ev) : joinT (LLs J n f) = scrT J n f := by
  unfold LLs scrT
  rw [joinT_append, linesL_join]
  congr 1
  unfold joinT strB
  rw [List.flatMap_map]
theorem joinT_take (l : List (List UInt8)) (q : Nat) : (joinT (l.take q)).length ≤ (joinT l).length := by
  have := joinT_append (l.take q) (l.drop q)
  rw [List.take_append_drop] at this
  rw [this, List.length_append]
  omega
theorem linesL_len {J : Jb} (h : GoodJ J) : (linesL J).length ≤ 10000 := by rw [← L3_all]; exact L3_len h (Nat.le_refl _)
def LS (J : Jb) (L : List Str) (q : Nat) : List (List UInt8) := linesL J ++ (L.take q).map lineT
theorem LS_next (J : Jb) (L : List Str) (q : Nat) (x : Str) (hx : L[q]? = some x) : LS J L (q + 1) = LS J L q ++ [lineT x] := by
  unfold LS
  rw [List.take_add_one, hx]
  simp
set_option maxHeartbeats 16000000 in
theorem rtext_any (J : Jb) (A : Option Addr) (n c : Nat) (f : Nat → Ev) (w : World) (he : Env w) (hJ : JbAt w J) (hE : EvAt w A n f) (hg : GoodJE J n f) : Calls Tryz.prog 28 #[.agg (sc9 J A n c)] w fun e w' => e = .returned (.string (bs (scrT J n f))) ∧ Only [] w w' := by
  have hnl := hg.len
  have hm : ∀ x ∈ strF (evL n f), mayS x = true := fun x hx => (strF_may _ (by rw [evL_len]; exact hg.len) x hx).1
  have hsl : (scrT J n f).length ≤ 1048576 := by rw [scrT_B]; exact scrB_all (good_sc hg)
  have hLl : (strF (evL n f)).length ≤ 8192 := by have := strF_len (evL n f); rw [evL_len] at this; omega
  have hjo := LLs_join J n f
  unfold LLs at hjo
  have hjl := linesL_len hg.job
  have RL := hide (fun W (o : Only [] w W) => rlines_any J W (he.only o) (jb_only0 hJ o) hg.job)
  have RS := fun W (o : Only [] w W) => rstrs_any A n c f W (by omega) (hE.only0 o)
  obtain ⟨L, hL⟩ : ∃ L, strF (evL n f) = L := ⟨_, rfl⟩
  rw [hL] at hm hLl hjo
  simp only [hL] at RS
  have RS := hide RS
  have HE := hide he
  have HM := hide hm
  have B1 := hide (Blk.new w 54 (sc9 J A n c))
  have O1 := hide ((Only.refl [] w).alloc (.cells (sc9 J A n c) 54))
  unfold sc9 at B1 O1
  unfold jobV at RL
  unfold sc9
  obtain ⟨X, hX⟩ : ∃ X, w.heap.size = X := ⟨_, rfl⟩
  rw [hX] at B1
  have x0 := B1.out.cell 0; have x1 := B1.out.cell 1; have x2 := B1.out.cell 2; have x3 := B1.out.cell 3; have x4 := B1.out.cell 4; have x5 := B1.out.cell 5; have x6 := B1.out.cell 6; have x7 := B1.out.cell 7; have x8 := B1.out.cell 8
  have HJO := hide hjo
  rw [← hjo] at hsl ⊢
  clear he hJ hE hg hm hL hjo
  go_enter Tryz.func28, Tryz.ntmps28
  go_wp2_with (first
    | (go_at_call 27; (with_reducible refine (RL.out _ O1.out).mono ?_); rintro e w1 ⟨⟨LA, lc, rfl, hq⟩, o⟩; have QL := hide hq; have O2 := hide (O1.out.trans0 o); have HO1 := hide o; have x8 := (B1.out.only o (by simp)).cell 8; clear o hq)
    | (go_at_call 16; (with_reducible refine (RS.out _ O2.out).mono ?_); rintro e w2 ⟨⟨SA, sc, rfl, hs⟩, o⟩; have QL2 := hide (QL.out.only0 o); have HBW := hide (show X + 1 ≤ w2.heap.size from Nat.le_trans (B1.out.only HO1.out (by simp)).lt o.size); have SL := hide hs; have O3 := hide (O2.out.trans0 o); clear o hs))
  have hBw : X + 1 ≤ w2.heap.size := HBW.out
  obtain ⟨SB, hSB⟩ : ∃ b, w1.heap.size = b := ⟨_, rfl⟩
  rw [hSB] at SL
  have QL3 := hide (show Qs w2 (X + 1) LA lc ((LS J L 0).map bs) from by
    have h1 : LS J L 0 = linesL J := by simp [LS]
    rw [h1]
    exact own_mono QL2.out (by rw [World.size_alloc, hX]; omega))
  have HWX := hide hX
  have hl0 : (linesL J).length = (LS J L 0).length := by simp [LS]
  rw [hl0]
  have HLS := hide (show ∀ q, (LS J L q).length ≤ 20000 from fun q => by
    unfold LS
    rw [List.length_append, List.length_map, List.length_take]
    omega)
  clear x0 x1 x2 x3 x4 x5 x6 x7 x8 hX B1 O1 O2 QL QL2 RL RS hl0 hjl hSB HO1 HBW
  go_loopw [3, 5] (fun v3 v5 wr => ∃ (q : Nat) (A : Option Addr) (c : Nat), q ≤ L.length ∧ v3 = .slice A (LS J L q).length c ∧ v5 = .int .i64 q ∧ Hid (Qs wr (X + 1) A c ((LS J L q).map bs)) ∧ Hid (Ss wr SB SA sc L) ∧ Hid (Only [] w wr) ∧ X + 1 ≤ wr.heap.size) (fun _ v5 _ => L.length - (intOf v5).toNat)
  case atStart => exact ⟨0, _, _, by omega, rfl, rfl, QL3, SL, O3, hBw⟩
  case round =>
    clear QL3 SL O3 hBw
    obtain ⟨q, A, c, hq, rfl, rfl, hQ, hS, hO, hBw⟩ := hrel
    by_cases hqn : q < L.length
    · obtain ⟨x, hx⟩ : ∃ x, L[q]? = some x := ⟨_, List.getElem?_eq_getElem hqn⟩
      have hxm := HM.out x (List.mem_of_getElem? hx)
      have hxb := mayS_num hxm
      obtain ⟨g, rfl, c0, c1, c2⟩ := hS.out.cells hx
      have j0 : (0 : Int) ≤ (q : Int) := by omega
      have j1 : (q : Int) < (L.length : Int) := by omega
      have LN := rsline_any x.ev.kind x.ev.num x.n (by omega) (by omega) (by omega) (by omega) wr (HE.out.only hO.out)
      have hst := hide (LS_next J L q x hx)
      have hal := HLS.out q
      obtain ⟨sl, hsl⟩ : ∃ s, bs (lineT x) = s := ⟨_, rfl⟩
      rw [show (⟨⟨x.ev.kind, x.ev.num⟩, x.n⟩ : Str) = x from rfl, hsl] at LN
      have HSL := hide hsl
      have LN := hide LN
      clear hxm hxb hx hsl
      go_wp2_with (go_at_call 19; (with_reducible refine LN.out.mono ?_); rintro e w3 ⟨rfl, o⟩; have q3 := hQ.out.only0 o; have s3 := hS.out.only0 o; have hs3 := o.size; obtain ⟨gB, cB, w4, hrun, hQ4, o4⟩ := app_line w3 (X + 1) A c (LS J L q) (lineT x) q3 (by omega) (by omega); rw [HSL.out] at hrun; rw [← hst.out] at hQ4; have hle : (LS J L (q + 1)).length = (LS J L q).length + 1 := (by rw [hst.out]; simp); rw [← hle] at hrun; have HQ4 := hide hQ4; have HS4 := hide (show Ss w4 SB (some ⟨g, 0, none⟩) sc L from own_only' s3 o4 (fun k hk hk2 => own_apart s3 q3 (by decide) k hk hk2)); have HO4 := hide ((hO.out.trans0 o).trans o4 (fun k hk => .inr (by have := (own_ge q3 k hk).1; have := HWX.out; omega))); have hB4 := o4.size; clear o o4 hQ4 hle q3 s3)
      go_roundw
      case rel => exact ⟨q + 1, _, _, by omega, rfl, by go_num, HQ4, HS4, HO4, by omega⟩
      case measure => simp [intOf]; omega
    · obtain rfl : q = L.length := by omega
      have hF : LS J L L.length = linesL J ++ L.map lineT := by unfold LS; rw [List.take_length]
      rw [hF] at hQ ⊢
      obtain ⟨LF, hLF⟩ : ∃ l, linesL J ++ L.map lineT = l := ⟨_, rfl⟩
      rw [hLF] at hQ hsl ⊢
      have hNl : LF.length ≤ 20000 := by rw [← hLF, ← hF]; exact HLS.out _
      have HLF := hide hLF
      clear hqn hq hS HLS hF hLF HM HJO
      go_wp2_with fail
      obtain ⟨V2, rfl⟩ : ∃ V, V = wr := ⟨_, rfl⟩
      go_loopw [6, 7] (fun v6 v7 wr => ∃ (q : Nat) (A2 : Option Addr) (c2 : Nat), q ≤ LF.length ∧ v6 = .slice A2 (joinT (LF.take q)).length c2 ∧ v7 = .int .i64 q ∧ Hid (Us wr V2.heap.size A2 c2 (joinT (LF.take q))) ∧ Hid (Only [] V2 wr)) (fun _ v7 _ => LF.length - (intOf v7).toNat)
      case atStart => exact ⟨0, none, 0, by omega, rfl, rfl, hide (World.ownsRow_nil ..), hide (Only.refl _ _)⟩
      case round =>
        obtain ⟨q, A2, c2, hq, rfl, rfl, hU, hO2⟩ := hrel
        by_cases hqn : q < LF.length
        · obtain ⟨x, hx⟩ : ∃ x, LF[q]? = some x := ⟨_, List.getElem?_eq_getElem hqn⟩
          obtain ⟨g, rfl, h1, _⟩ := own_cell hQ.out (by simp; omega)
          have cq := hO2.out.keep0 ((h1 q (by simp; omega)).trans (show (Strs (LF.map bs))[q]? = some (.string (bs x)) by simp [Strs, hx]))
          have j0 : (0 : Int) ≤ (q : Int) := by omega
          have j1 : (q : Int) < (LF.length : Int) := by omega
          have htk : joinT (LF.take (q + 1)) = joinT (LF.take q) ++ x ++ [10] := by rw [List.take_add_one, hx, joinT_append]; simp [joinT]
          have hl1 := joinT_take LF (q + 1)
          rw [htk, List.length_append, List.length_append, List.length_cons, List.length_nil] at hl1
          obtain ⟨A3, c3, w4, hrun1, hU3, o3⟩ := app_bstr wr V2.heap.size A2 c2 (joinT (LF.take q)) x hU.out (by omega) hO2.out.size
          have hs3 := o3.size
          have hws := hO2.out.size
          obtain ⟨gB, cB, w5, hrun2, hU4, o4⟩ := app_u8 w4 V2.heap.size A3 c3 (joinT (LF.take q) ++ x) 10 hU3 (by rw [List.length_append]; omega) (by omega)
          have hrun2 : (AppH #[68, 68] 68 #[.slice A3 (joinT (LF.take q) ++ x).length c3, .slice (some ⟨w4.heap.size, 0, none⟩) 1 1]).run Tryz.prog (w4.alloc (.cells #[.int .u8 10] 5)) = .ok (.slice (some ⟨gB, 0, none⟩) ((joinT (LF.take q) ++ x).length + 1) cB) w5 := hrun2
          have hle : (joinT (LF.take (q + 1))).length = (joinT (LF.take q) ++ x).length + 1 := by rw [htk]; simp only [List.length_append, List.length_cons, List.length_nil]
          rw [← hle] at hrun2
          rw [← htk] at hU4
          obtain ⟨m1, hm1⟩ : ∃ m, (joinT (LF.take q) ++ x).length = m := ⟨_, rfl⟩
          rw [hm1] at hrun1 hrun2
          have HU4 := hide hU4
          have ON := hide ((hO2.out.trans o3 (fun k hk => .inr (own_ge hU.out k hk).1)).trans o4 (fun k hk => .inr (own_ge hU3 k hk).1))
          obtain ⟨sx, hsx⟩ : ∃ s, bs x = s := ⟨_, rfl⟩
          rw [hsx] at cq hrun1
          clear hx h1 htk hl1 hU3 o3 o4 hU4 hle hsx hU hm1
          go_wp2_with fail
          go_roundw
          case rel => exact ⟨q + 1, _, _, by omega, rfl, by go_num, HU4, ON⟩
          case measure => simp [intOf]; omega
        · obtain rfl : q = LF.length := by omega
          rw [List.take_length] at hU ⊢
          have cv := run_str_any A2 (joinT LF).length c2 (joinT LF) wr rfl (Src.own hU.out)
          go_wp2_with fail
          go_ret
          exact ⟨by rw [HLF.out]; rfl, hO.out.trans0 hO2.out⟩
end Go.Proofs.YteblhklclcjonaaGreatDoor
