/- Code, the document's: Names, the walk of Line. Condition: Env. -/
import Derived.Test.YtmaljajdmgkakaaGreatDoorCdM
import Derived.Test.YtmaljajdmgkakaaGreatDoorCdK
import Derived.BigRegion
import Derived.Deep.RegionHeld3
namespace Go.Proofs.YtmaljajdmgkakaaGreatDoor
open Go.RowKit
set_option linter.unusedVariables false
set_option linter.all false
set_option maxRecDepth 20000

def NAMV : Array Value := #[.string (bs (nmB 0)), .string (bs (nmB 1)), .string (bs (nmB 2)), .string (bs (nmB 3)), .string (bs (nmB 4)), .string (bs (nmB 5)), .string (bs (nmB 6)), .string (bs (nmB 7)), .string (bs (nmB 8))]
theorem names_any (w : World) : Calls Tryz.prog 84 #[] w fun e w' => e = .returned (.slice (some ⟨w.heap.size, 0, none⟩) 9 9) ∧ w' = w.alloc (.cells NAMV 9) := by
  go_enter Tryz.func84, Tryz.ntmps84
  go_wp2_with fail
  go_ret
  exact ⟨rfl, rfl⟩
theorem namv_cell (W : World) (k : Nat) (hk : k < 9) : (W.alloc (.cells NAMV 9)).cell? ⟨W.heap.size, k, none⟩ = some (.string (bs (nmB k))) := by
  refine ((Blk.new W 9 NAMV).cell k).trans ?_
  rcases (by omega : k = 0 ∨ k = 1 ∨ k = 2 ∨ k = 3 ∨ k = 4 ∨ k = 5 ∨ k = 6 ∨ k = 7 ∨ k = 8) with h | h | h | h | h | h | h | h | h
  all_goals (subst h; rfl)
theorem bs_app (a b : List UInt8) : bs a ++ bs b = bs (a ++ b) := by
  apply ByteArray.ext
  simp [bs, ByteArray.data_append]
def accL (s : List UInt8) (n : Nat → Bool) (l : Nat → Int) : Nat → List UInt8
  | 0 => s
  | q + 1 => accL s n l q ++ regB (n q) (l q)
theorem accL_len (s : List UInt8) (n : Nat → Bool) (l : Nat → Int) : ∀ q, (accL s n l q).length ≤ s.length + 30 * q
  | 0 => by simp [accL]
  | q + 1 => by
    have := accL_len s n l q
    have h2 := itoaF_len (l q)
    unfold accL regB
    split <;> simp <;> omega
theorem lineB_acc (i : Ins) (k : Nat) (hk : i.op = k) : lineB i = accL (nmB k) (nB (shp k).d (shp k).a (shp k).b) (lB i.d i.a i.b) 3 ++ (if (shp k).imm ≠ 0 then 32 :: itoaF i.imm else []) := by
  unfold lineB
  rw [hk, Int.toNat_natCast]
  simp [accL, nB, lB, List.append_assoc]
set_option maxHeartbeats 8000000 in
theorem rline_any (i : Ins) (w : World) (he : Env w) (hm : mayI i 256 = true) (h0 : -9223372036854775808 ≤ i.imm) (h1 : i.imm ≤ 9223372036854775807) : Calls Tryz.prog 52 #[.agg (insV i)] w fun e w' => e = .returned (.string (bs (lineB i))) ∧ Only [] w w' := by
  obtain ⟨⟨p0, p1⟩, hd, ha, hb, -⟩ := mayI_parts hm
  obtain ⟨k, hk⟩ : ∃ k : Nat, i.op = k := ⟨i.op.toNat, by omega⟩
  have hk9 : k < 9 := by omega
  rw [hk, Int.toNat_natCast] at hd ha hb
  rw [lineB_acc i k hk]
  obtain ⟨o, d, a, b, imm⟩ := i
  simp only at hk hd ha hb h0 h1 ⊢
  subst hk
  have hg : ∀ q, q < 3 → nB (shp k).d (shp k).a (shp k).b q = true → 0 ≤ lB d a b q ∧ lB d a b q < 100 := by
    intro q hq hn
    unfold regOk at hd ha hb
    rcases (by omega : q = 0 ∨ q = 1 ∨ q = 2) with h | h | h
    · subst h; simp [nB] at hn; simp [hn] at hd; simp [lB]; omega
    · subst h; simp [nB] at hn; simp [hn] at ha; simp [lB]; omega
    · subst h; simp [nB] at hn; simp [hn] at hb; simp [lB]; omega
  have NM := fun W => named_ok k hk9 W
  unfold namV at NM
  have hlen := fun q => accL_len (nmB k) (nB (shp k).d (shp k).a (shp k).b) (lB d a b) q
  have hnl := (nm_blank k).2.2
  obtain ⟨nm, hnm⟩ : ∃ nm, nmB k = nm := ⟨_, rfl⟩
  have NC := hide (fun (W : World) => (namv_cell W k hk9).trans (by rw [hnm]))
  obtain ⟨sd, hsd⟩ : ∃ d, (shp k).d = d := ⟨_, rfl⟩
  obtain ⟨sa, hsa⟩ : ∃ d, (shp k).a = d := ⟨_, rfl⟩
  obtain ⟨sb, hsb⟩ : ∃ d, (shp k).b = d := ⟨_, rfl⟩
  obtain ⟨m, hmm⟩ : ∃ m, (shp k).imm = m := ⟨_, rfl⟩
  rw [hsd, hsa, hsb, hmm] at NM
  simp only [hsd, hsa, hsb, hmm, hnm] at hg hlen ⊢
  rw [hnm] at hnl
  have HG := hide hg
  have HL := hide hlen
  have HE := hide he
  have NM := hide NM
  clear hsd hsa hsb hmm hnm hd ha hb hm p0 p1 hg hlen he
  have b1 := Blk.new w 25 (insV ⟨k, d, a, b, imm⟩)
  have o1 := (Only.refl [] w).alloc (.cells (insV ⟨k, d, a, b, imm⟩) 25)
  unfold insV at b1 o1 ⊢
  have x0 := b1.cell 0
  have B1 := hide b1
  have O1 := hide o1
  simp only at x0
  clear b1 o1
  go_enter Tryz.func52, Tryz.ntmps52
  go_wp2_with (go_at_call 83; (with_reducible refine (NM.out _).mono ?_); rintro e u1 ⟨rfl, o2⟩; have b2 := (B1.out.only o2 (by simp)).alloc (.cells #[.bool sd, .bool sa, .bool sb] 86); have O2 := hide (O1.out.trans0 o2); have B2 := hide b2; clear x0 o2 b2 B1 O1)
  obtain ⟨X, hX⟩ : ∃ X, w.heap.size = X := ⟨_, rfl⟩
  obtain ⟨Y, hY⟩ : ∃ Y, u1.heap.size = Y := ⟨_, rfl⟩
  have bN := Blk.new u1 86 #[.bool sd, .bool sa, .bool sb]
  have bI := B2.out
  have o3 := O2.out.alloc (.cells #[.bool sd, .bool sa, .bool sb] 86)
  rw [hY] at bN
  simp only [hX, hY] at bI ⊢
  obtain ⟨V, hV⟩ : ∃ V, u1.alloc (.cells #[.bool sd, .bool sa, .bool sb] 86) = V := ⟨_, rfl⟩
  rw [hV] at bN bI o3 ⊢
  have BN := hide bN
  have BI := hide bI
  have O3 := hide o3
  have q0 := bI.cell 0
  clear hV hX hY bN bI o3 B2 O2
  have j0 : (0 : Int) ≤ (k : Int) := by omega
  have j1 : (k : Int) < 9 := by omega
  refine wp_region_held_drew (S := (fun U1 => Only [] V U1)) (by kernel_rfl) ((Only.refl _ V).drew) (fun hHeld => ?_)
  revert hHeld
  generalize V.drew = u0
  intro hHeld
  refine wpAnyH_take (i := 1) (oi := ⟨some 17, _, _, _, _, _⟩) (v := ?vn1) rfl (by kernel_rfl) (by kernel_rfl) (by kernel_rfl) (fun _ _ _ h => h) (Or.inl ⟨by rfl, ?hyn1⟩) (by assumption) ?restn1
  case hyn1 => (intro V hSw; (try dsimp only at hSw); go_simp; first | done | (with_reducible rfl))
  try simp only [Act.put, List.setIfInBounds_toArray, List.set_cons_zero, List.set_cons_succ]
  refine wpAnyH_take (i := 2) (oi := ⟨some 18, _, _, _, _, _⟩) (v := ?vn2) rfl (by kernel_rfl) (by kernel_rfl) (by kernel_rfl) (fun _ _ _ h => h) (Or.inl ⟨by rfl, ?hyn2⟩) (by assumption) ?restn2
  case hyn2 => (intro V hSw; (try dsimp only at hSw); have z := (BI.out.only hSw (by simp)).cell 0; go_simp; first | done | (with_reducible rfl))
  try simp only [Act.put, List.setIfInBounds_toArray, List.set_cons_zero, List.set_cons_succ]
  refine wpAnyH_ready (rs := [0]) (by kernel_rfl) (by simp) ?_
  refine AllReadyH.cons (o := ⟨some 16, _, _, _, _, _⟩) rfl (fun K hK => ?_) (AllReadyH.nil)
  rw [if_pos (by rfl)]
  go_simp
  (with_reducible refine (names_any _).mono ?_); rintro e u2 ⟨rfl, hu⟩; have nc := NC.out u0; rw [← hu] at nc; have OS := hide (show Only [] V u2 from by rw [hu]; exact (show Only [] V u0 from hHeld).alloc _); clear hu
  try dsimp only
  refine hK.out _ _ (OS.out) (fun hHeld => ?_)
  clear hK K
  try simp only [Act.put, List.setIfInBounds_toArray, List.set_cons_zero, List.set_cons_succ]
  refine wpAnyH_take (i := 3) (oi := ⟨some 19, _, _, _, _, _⟩) (v := ?vn3) rfl (by kernel_rfl) (by kernel_rfl) (by kernel_rfl) (fun _ _ _ h => h) (Or.inl ⟨by rfl, ?hyn3⟩) (by assumption) ?restn3
  case hyn3 => (intro V hSw; (try dsimp only at hSw); go_simp; first | done | (with_reducible rfl))
  try simp only [Act.put, List.setIfInBounds_toArray, List.set_cons_zero, List.set_cons_succ]
  refine wpAnyH_ready (rs := [4]) (by kernel_rfl) (by simp) ?_
  refine AllReadyH.cons (o := ⟨some 20, _, _, _, _, _⟩) rfl (fun K hK => ?_) (AllReadyH.nil)
  rw [if_pos (by rfl)]
  go_simp
  try dsimp only
  refine hK.out _ _ (OS.out) (fun hHeld => ?_)
  clear hK K
  try simp only [Act.put, List.setIfInBounds_toArray, List.set_cons_zero, List.set_cons_succ]
  refine wpAnyH_take (i := 5) (oi := ⟨some 6, _, _, _, _, _⟩) (v := ?vn4) rfl (by kernel_rfl) (by kernel_rfl) (by kernel_rfl) (fun _ _ _ h => h) (Or.inl ⟨by rfl, ?hyn4⟩) (by assumption) ?restn4
  case hyn4 => (intro V hSw; (try dsimp only at hSw); go_simp; first | done | (with_reducible rfl))
  try simp only [Act.put, List.setIfInBounds_toArray, List.set_cons_zero, List.set_cons_succ]
  refine wpAnyH_done (by kernel_rfl) ?_ _
  have BI2 := hide (BI.out.only OS.out (by simp))
  have BN2 := hide (BN.out.only OS.out (by simp))
  have O4 := hide (O3.out.trans0 OS.out)
  have i1 := BI2.out.cell 1
  have i2 := BI2.out.cell 2
  have i3 := BI2.out.cell 3
  clear hHeld OS nc q0 BI BN O3 NC
  go_wp2_with fail
  obtain ⟨Z, hZ⟩ : ∃ Z, u2.heap.size = Z := ⟨_, rfl⟩
  have bL := Blk.new u2 88 #[.int .i64 d, .int .i64 a, .int .i64 b]
  have bN := BN2.out.alloc (.cells #[.int .i64 d, .int .i64 a, .int .i64 b] 88)
  have bI := BI2.out.alloc (.cells #[.int .i64 d, .int .i64 a, .int .i64 b] 88)
  have o4 := O4.out.alloc (.cells #[.int .i64 d, .int .i64 a, .int .i64 b] 88)
  rw [hZ] at bL ⊢
  obtain ⟨U, hU⟩ : ∃ U, u2.alloc (.cells #[.int .i64 d, .int .i64 a, .int .i64 b] 88) = U := ⟨_, rfl⟩
  rw [hU] at bL bN bI o4 ⊢
  have CN := hide (fun q (hq : q < 3) => (bN.cell q).trans (nB_get sd sa sb q hq))
  have CL := hide (fun q (hq : q < 3) => (bL.cell q).trans (lB_get d a b q hq))
  have BI := hide bI
  have OU := hide o4
  clear hU hZ bL bN bI o4 i1 i2 i3 BI2 BN2 O4
  go_loopw [6, 8] (fun vs vi wr => ∃ q : Nat, q ≤ 3 ∧ vi = .int .i64 q ∧ vs = .string (bs (accL nm (nB sd sa sb) (lB d a b) q)) ∧ U = wr) (fun _ vi _ => 3 - (intOf vi).toNat)
  case atStart => exact ⟨0, by omega, rfl, rfl, (by first | rfl | trivial)⟩
  case round =>
    obtain ⟨q, hq, rfl, rfl, hw⟩ := hrel
    obtain rfl := hw
    by_cases hq3 : q < 3
    · have cN := CN.out q hq3
      have cL := CL.out q hq3
      have hst : accL nm (nB sd sa sb) (lB d a b) (q + 1) = accL nm (nB sd sa sb) (lB d a b) q ++ regB (nB sd sa sb q) (lB d a b q) := rfl
      have hgq := HG.out q hq3
      have hlq := HL.out q
      obtain ⟨nq, hnq⟩ : ∃ nq, nB sd sa sb q = nq := ⟨_, rfl⟩
      obtain ⟨lq, hlq'⟩ : ∃ lq, lB d a b q = lq := ⟨_, rfl⟩
      obtain ⟨ac, hac⟩ : ∃ ac, accL nm (nB sd sa sb) (lB d a b) q = ac := ⟨_, rfl⟩
      rw [hnq, hlq', hac] at hst
      rw [hnq, hlq'] at hgq
      rw [hac] at hlq
      rw [hnq] at cN
      rw [hlq'] at cL
      rw [hac]
      have HST := hide hst
      have j0 : (q : Int) < 3 := by omega
      have j1 : (0 : Int) ≤ (q : Int) := by omega
      clear hnq hlq' hst hac CN CL
      cases nq
      · go_wp2_with fail
        go_roundw
        case rel => exact ⟨q + 1, by omega, by go_num, by rw [HST.out]; simp [regB], (by first | rfl | trivial)⟩
        case measure => simp [intOf]; omega
      · obtain ⟨g0, g1⟩ := hgq rfl
        have IT := hide (itoa_any lq g0 g1)
        have es1 : bs ac ++ (⟨#[32, 114]⟩ : ByteArray) = bs (ac ++ [32, 114]) := bs_app ac [32, 114]
        have es2 : bs (ac ++ [32, 114]) ++ (⟨(itoaF lq).toArray⟩ : ByteArray) = bs (ac ++ regB true lq) := by
          rw [show (⟨(itoaF lq).toArray⟩ : ByteArray) = bs (itoaF lq) from rfl, bs_app]; simp [regB]
        have hil := itoaF_len lq
        have z1 : ¬ 9223372036854775807 < (bs ac).size + (⟨#[32, 114]⟩ : ByteArray).size := by rw [bs_size, show (⟨#[32, 114]⟩ : ByteArray).size = 2 from rfl]; omega
        have z2 : ¬ 9223372036854775807 < (bs (ac ++ [32, 114])).size + (⟨(itoaF lq).toArray⟩ : ByteArray).size := by
          rw [bs_size, show (⟨(itoaF lq).toArray⟩ : ByteArray) = bs (itoaF lq) from rfl, bs_size]; simp; omega
        obtain ⟨s1, hs1⟩ : ∃ s1, bs (ac ++ [32, 114]) = s1 := ⟨_, rfl⟩
        obtain ⟨s2, hs2⟩ : ∃ s2, bs (ac ++ regB true lq) = s2 := ⟨_, rfl⟩
        obtain ⟨si, hsi⟩ : ∃ si, (⟨(itoaF lq).toArray⟩ : ByteArray) = si := ⟨_, rfl⟩
        obtain ⟨s0, hs0⟩ : ∃ s0, bs ac = s0 := ⟨_, rfl⟩
        rw [hs1, hs0] at es1
        rw [hs1, hs2, hsi] at es2
        rw [hs0] at z1 ⊢
        rw [hs1, hsi] at z2
        rw [hsi] at IT
        have HS2 := hide hs2
        clear hs1 hs2 hsi hs0 hil g0 g1 hgq
        go_wp2_with (go_at_call 38; (with_reducible refine (IT.out _).mono ?_); rintro e w1 ⟨rfl, rfl⟩)
        go_roundw
        case rel => exact ⟨q + 1, by omega, by go_num, by rw [HST.out, HS2.out], (by first | rfl | trivial)⟩
        case measure => simp [intOf]; omega
    · obtain rfl : q = 3 := by omega
      have hl3 := HL.out 3
      obtain ⟨ac, hac⟩ : ∃ ac, accL nm (nB sd sa sb) (lB d a b) 3 = ac := ⟨_, rfl⟩
      rw [hac] at hl3 ⊢
      have HAC := hide hac
      clear hac CN CL HG HL
      by_cases hm0 : m = 0
      · have e0 : decide ((0 : Int) < (m : Nat)) = false := decide_eq_false (by omega)
        have e1 : decide (0 < m) = false := decide_eq_false (by omega)
        go_wp2_with fail
        go_ret
        refine ⟨by rw [HAC.out]; simp [hm0], OU.out⟩
      · have e0 : decide ((0 : Int) < (m : Nat)) = true := decide_eq_true (by omega)
        have e1 : decide (0 < m) = true := decide_eq_true (by omega)
        have FM := hide (fun W (h : Env W) => fmt_any imm h0 h1 W h)
        have hE := hide (HE.out.only OU.out)
        have i4 := BI.out.cell 4
        have hil := itoaF_len imm
        have es1 : bs ac ++ (⟨#[32]⟩ : ByteArray) = bs (ac ++ [32]) := bs_app ac [32]
        have es2 : bs (ac ++ [32]) ++ (⟨(itoaF imm).toArray⟩ : ByteArray) = bs (ac ++ 32 :: itoaF imm) := by
          rw [show (⟨(itoaF imm).toArray⟩ : ByteArray) = bs (itoaF imm) from rfl, bs_app]; simp
        have z1 : ¬ 9223372036854775807 < (bs ac).size + (⟨#[32]⟩ : ByteArray).size := by rw [bs_size, show (⟨#[32]⟩ : ByteArray).size = 1 from rfl]; omega
        have z2 : ¬ 9223372036854775807 < (bs (ac ++ [32])).size + (⟨(itoaF imm).toArray⟩ : ByteArray).size := by
          rw [bs_size, show (⟨(itoaF imm).toArray⟩ : ByteArray) = bs (itoaF imm) from rfl, bs_size]; simp; omega
        obtain ⟨s1, hs1⟩ : ∃ s1, bs (ac ++ [32]) = s1 := ⟨_, rfl⟩
        obtain ⟨s2, hs2⟩ : ∃ s2, bs (ac ++ 32 :: itoaF imm) = s2 := ⟨_, rfl⟩
        obtain ⟨si, hsi⟩ : ∃ si, (⟨(itoaF imm).toArray⟩ : ByteArray) = si := ⟨_, rfl⟩
        obtain ⟨s0, hs0⟩ : ∃ s0, bs ac = s0 := ⟨_, rfl⟩
        rw [hs1, hs0] at es1
        rw [hs1, hs2, hsi] at es2
        rw [hs0] at z1 ⊢
        rw [hs1, hsi] at z2
        rw [hsi] at FM
        have HS2 := hide hs2
        have HM := hide hm0
        clear hs1 hs2 hsi hs0 hil hm0
        go_wp2_with (go_at_call 39; (with_reducible refine (FM.out _ hE.out).mono ?_); rintro e w1 ⟨rfl, o'⟩)
        go_ret
        refine ⟨?_, OU.out.trans0 o'⟩
        rw [HAC.out]
        rw [HS2.out]
        try rfl
end Go.Proofs.YtmaljajdmgkakaaGreatDoor
