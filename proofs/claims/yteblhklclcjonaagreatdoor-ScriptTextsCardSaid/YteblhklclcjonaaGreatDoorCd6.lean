/- Code: the walk of Line. Condition: Env. -/
import Derived.Test.YteblhklclcjonaaGreatDoorCd5
namespace Go.Proofs.YteblhklclcjonaaGreatDoor
open Go.RowKit
set_option linter.unusedVariables false
set_option linter.all false
set_option maxRecDepth 20000
attribute [local go_sem ↓] app_hide

def bs (l : List UInt8) : ByteArray := ⟨l.toArray⟩
theorem bs_list (l : List UInt8) : (bs l).data.toList = l := by simp [bs]
theorem bs_of (s : ByteArray) : bs s.data.toList = s := by unfold bs; rfl
theorem bs_size (l : List UInt8) : (bs l).size = l.length := by unfold bs; simp [ByteArray.size]
/-- Which registers an instruction names, and what they are. -/
def rgN (i : Ins) : Nat → Bool
  | 0 => (shp i.op.toNat).d
  | 1 => (shp i.op.toNat).a
  | _ => (shp i.op.toNat).b
def rgV (i : Ins) : Nat → Int
  | 0 => i.d
  | 1 => i.a
  | _ => i.b
/-- A line's words ahead of its number. -/
def wds (i : Ins) : Nat → List ByteArray
  | 0 => [bs (nmB i.op.toNat)]
  | k + 1 => wds i k ++ if rgN i k then [bs (114 :: itoaF (rgV i k))] else []
theorem wds_len (i : Ins) : ∀ k, 1 ≤ (wds i k).length ∧ (wds i k).length ≤ k + 1
  | 0 => by simp [wds]
  | k + 1 => by
    have := wds_len i k
    unfold wds
    split <;> simp <;> omega
theorem join_words (a : List UInt8) (r : List (List UInt8)) : Lib.join (a :: r) [32] = a ++ (r.map ([32] ++ ·)).flatten := by
  unfold Lib.join
  induction r generalizing a with
  | nil => simp [List.intercalate]
  | cons b r ih =>
    have := ih b
    simp [List.intercalate, List.intersperse] at this ⊢
    rw [this]
theorem line_join (i : Ins) : Lib.join (((wds i 3) ++ (if (shp i.op.toNat).imm ≠ 0 then [bs (itoaF i.imm)] else [])).map (·.data.toList)) [32] = lineB i := by
  have e : wds i 3 = bs (nmB i.op.toNat) :: ((if rgN i 0 then [bs (114 :: itoaF (rgV i 0))] else []) ++ ((if rgN i 1 then [bs (114 :: itoaF (rgV i 1))] else []) ++ (if rgN i 2 then [bs (114 :: itoaF (rgV i 2))] else []))) := by
    simp [wds]
  rw [e, List.cons_append, List.map_cons, bs_list, join_words]
  unfold lineB regB rgN rgV
  congr 1
  cases (shp i.op.toNat).d <;> cases (shp i.op.toNat).a <;> cases (shp i.op.toNat).b <;> by_cases h : (shp i.op.toNat).imm = 0 <;> simp [h, bs_list]
theorem digF_len : ∀ f u, (digF f u).length ≤ f + 1
  | 0, u => by simp [digF]
  | f + 1, u => by
    have := digF_len f (u / 10)
    unfold digF
    split <;> simp
    omega
theorem itoaF_len (n : Int) : (itoaF n).length ≤ 22 := by
  unfold itoaF
  split
  · have := digF_len 20 n.natAbs; simp; omega
  · have := digF_len 20 n.toNat; omega
theorem lineB_len (i : Ins) : (lineB i).length ≤ 120 := by
  have h1 := (nm_blank i.op.toNat).2.2
  have h2 := itoaF_len i.d
  have h3 := itoaF_len i.a
  have h4 := itoaF_len i.b
  have h5 := itoaF_len i.imm
  unfold lineB regB
  cases (shp i.op.toNat).d <;> cases (shp i.op.toNat).a <;> cases (shp i.op.toNat).b <;> by_cases h : (shp i.op.toNat).imm = 0 <;> simp [h] <;> omega
theorem str_r (l : List UInt8) : (⟨#[114]⟩ : ByteArray) ++ ⟨l.toArray⟩ = bs (114 :: l) := by
  apply ByteArray.ext
  simp [bs, ByteArray.data_append]
theorem idx57 (d a b : Bool) : ∀ k : Nat, k < 3 → ∀ W, (Instr.index 127 (.agg #[.bool d, .bool a, .bool b]) (.int .i64 k)).run Tryz.prog W = .ok (.bool (match k with | 0 => d | 1 => a | _ => b)) W := by
  intro k hk W
  rcases (by omega : k = 0 ∨ k = 1 ∨ k = 2) with h | h | h
  all_goals (subst h; kernel_rfl)
theorem idx59 (d a b : Int) : ∀ k : Nat, k < 3 → ∀ W, (Instr.index 111 (.agg #[.int .i64 d, .int .i64 a, .int .i64 b]) (.int .i64 k)).run Tryz.prog W = .ok (.int .i64 (match k with | 0 => d | 1 => a | _ => b)) W := by
  intro k hk W
  rcases (by omega : k = 0 ∨ k = 1 ∨ k = 2) with h | h | h
  all_goals (subst h; kernel_rfl)
theorem line_bad (i : Ins) (w : World) (hm : mayI i 256 = false) : Calls Tryz.prog 70 #[.agg (insV i)] w fun e w' => e = .returned (.tuple #[.string ⟨#[]⟩, .int .i64 2]) ∧ Only [] w w' := by
  have MY := hide (fun W => may_any i 256 W)
  simp only [hm] at MY
  have b1 := Blk.new w 99 (insV i)
  have o1 := (Only.refl [] w).alloc (.cells (insV i) 99)
  unfold insV at MY b1 o1 ⊢
  have x0 := b1.cell 0
  have x1 := b1.cell 1
  have x2 := b1.cell 2
  have x3 := b1.cell 3
  have x4 := b1.cell 4
  clear b1 hm
  go_enter Tryz.func70, Tryz.ntmps70
  go_wp2_with (go_at_call 92; (with_reducible refine (MY.out _).mono ?_); rintro e w1 ⟨rfl, o2⟩)
  go_ret2
  exact ⟨rfl, o1.trans0 o2⟩
set_option maxHeartbeats 8000000 in
theorem line_good (i : Ins) (w : World) (he : Env w) (hm : mayI i 256 = true) (h0 : -9223372036854775808 ≤ i.imm) (h1 : i.imm ≤ 9223372036854775807) : Calls Tryz.prog 70 #[.agg (insV i)] w fun e w' => e = .returned (.tuple #[.string (bs (lineB i)), .int .i64 0]) ∧ Only [] w w' := by
  have MY := hide (fun W => may_any i 256 W)
  simp only [hm] at MY
  obtain ⟨⟨p0, p1⟩, hd, ha, hb, -⟩ := mayI_parts hm
  obtain ⟨k, hk⟩ : ∃ k : Nat, i.op = k := ⟨i.op.toNat, by omega⟩
  have hk9 : k < 9 := by omega
  have OF := fun W => of_ok k hk9 W
  have b1 := Blk.new w 99 (insV i)
  have o1 := (Only.refl [] w).alloc (.cells (insV i) 99)
  have HLJ := hide (line_join i)
  have HLL := hide (lineB_len i)
  have hkN : i.op.toNat = k := by omega
  have HRV := hide (show ∀ q, q < 3 → rgN i q = true → 0 ≤ rgV i q ∧ rgV i q < 100 from fun q hq hr => by
    rcases (by omega : q = 0 ∨ q = 1 ∨ q = 2) with rfl | rfl | rfl
    all_goals (simp only [rgN] at hr; simp only [rgV])
    · rw [hr] at hd; simp [regOk] at hd; omega
    · rw [hr] at ha; simp [regOk] at ha; omega
    · rw [hr] at hb; simp [regOk] at hb; omega)
  have HN0 := hide (show wds i 0 = [bs (nmB k)] by unfold wds; rw [hkN])
  have HI := hide (show ∀ q, q < 3 → rgN i q = (match q with | 0 => (shp k).d | 1 => (shp k).a | _ => (shp k).b) from fun q hq => by
    rcases (by omega : q = 0 ∨ q = 1 ∨ q = 2) with rfl | rfl | rfl
    all_goals (simp only [rgN, hkN]))
  have HV := hide (show ∀ q, q < 3 → rgV i q = (match q with | 0 => i.d | 1 => i.a | _ => i.b) from fun q hq => by
    rcases (by omega : q = 0 ∨ q = 1 ∨ q = 2) with rfl | rfl | rfl
    all_goals rfl)
  unfold insV at MY b1 o1 ⊢
  rw [hk] at MY b1 o1 ⊢
  unfold opV at OF
  have hs : ByteArray.mk (nmB k).toArray = bs (nmB k) := rfl
  rw [hs] at OF
  obtain ⟨d, hdd⟩ : ∃ d, (shp k).d = d := ⟨_, rfl⟩
  obtain ⟨a, haa⟩ : ∃ d, (shp k).a = d := ⟨_, rfl⟩
  obtain ⟨b, hbb⟩ : ∃ d, (shp k).b = d := ⟨_, rfl⟩
  obtain ⟨m, hmm⟩ : ∃ m, (shp k).imm = m := ⟨_, rfl⟩
  rw [hkN, hmm] at HLJ
  rw [hdd, haa, hbb, hmm] at OF
  rw [hdd, haa, hbb] at HI
  obtain ⟨nm, hnm⟩ : ∃ nm, bs (nmB k) = nm := ⟨_, rfl⟩
  rw [hnm] at OF HN0
  have OF := hide OF
  have HE := hide he
  have x0 := b1.cell 0
  have x1 := b1.cell 1
  have x2 := b1.cell 2
  have x3 := b1.cell 3
  have x4 := b1.cell 4
  have BI := hide b1
  clear hs hd ha hb hdd haa hbb hmm hnm hkN hk9 p0 p1 hm b1 he
  go_enter Tryz.func70, Tryz.ntmps70
  go_wp2_with (first
    | (go_at_call 92; (with_reducible refine (MY.out _).mono ?_); rintro e w1 ⟨rfl, o2⟩; have O2 := hide (o1.trans0 o2); have B2 := hide (BI.out.only o2 (by simp)); have y0 := B2.out.cell 0; clear o2)
    | (go_at_call 96; (with_reducible refine (OF.out _).mono ?_); rintro e w2 ⟨rfl, o3⟩; have O3 := hide ((O2.out.trans0 o3).alloc (.cells #[.string nm, .bool d, .bool a, .bool b, .int .i64 (m : Nat)] 152)); have B3 := hide ((B2.out.only o3 (by simp)).alloc (.cells #[.string nm, .bool d, .bool a, .bool b, .int .i64 (m : Nat)] 152)); have C3 := hide (Blk.new w2 152 #[.string nm, .bool d, .bool a, .bool b, .int .i64 (m : Nat)]); have z0 := C3.out.cell 0; have z1 := C3.out.cell 1; have z2 := C3.out.cell 2; have z3 := C3.out.cell 3; clear o3))
  obtain ⟨V0, hV0⟩ : ∃ V0, w2.alloc (.cells #[.string nm, .bool d, .bool a, .bool b, .int .i64 (m : Nat)] 152) = V0 := ⟨_, rfl⟩
  have hN : w2.heap.size + 1 = V0.heap.size := by rw [← hV0]; simp
  rw [hV0] at O3 B3 C3 z0 z1 z2 z3
  rw [hV0, hN]
  obtain ⟨Y, hY⟩ : ∃ Y, w2.heap.size = Y := ⟨_, rfl⟩
  rw [hY] at C3 z0 z1 z2 z3
  rw [hY]
  have EV := hide (HE.out.only O3.out)
  have row0 : Qs (V0.alloc (.cells #[.string nm] 9)) V0.heap.size (some ⟨V0.heap.size, 0, none⟩) 1 (wds i 0) := by
    rw [HN0.out]
    have := own_of_block (cur := [.string nm]) (n := 1) (cap := 1) (Blk.new V0 9 #[.string nm]) rfl (by omega) (by unfold maxLen; omega) (Nat.le_refl V0.heap.size)
    exact this
  have R0 := hide row0
  have LW := hide (wds_len i)
  have hl0 : (wds i 0).length = 1 := by rw [HN0.out]; rfl
  have HL0 := hide hl0
  clear hV0 hN hY z0 z1 z2 z3 row0 x0 x1 x2 x3 x4 y0 B2 BI O2 o1 HE hl0
  go_loopw [6, 28] (fun vl vk wr => ∃ (q : Nat) (A : Option Addr) (c : Nat), q ≤ 3 ∧ vk = .int .i64 q ∧ vl = .slice A (wds i q).length c ∧ Hid (Qs wr V0.heap.size A c (wds i q)) ∧ Hid (Only [] V0 wr)) (fun _ vk _ => 3 - (intOf vk).toNat)
  case atStart => exact ⟨0, _, 1, by omega, rfl, by rw [HL0.out], R0, hide ((Only.refl [] V0).alloc _)⟩
  case round =>
    obtain ⟨q, A, c, hq, rfl, rfl, hR, hO⟩ := hrel
    by_cases hq3 : q < 3
    · have IX := hide (idx57 d a b q hq3)
      have IY := hide (idx59 i.d i.a i.b q hq3)
      rw [← HI.out q hq3] at IX
      rw [← HV.out q hq3] at IY
      have i1 : (q : Int) < 3 := by omega
      cases hr : rgN i q with
      | false =>
        rw [hr] at IX
        have HW := hide (show wds i (q + 1) = wds i q by show wds i q ++ _ = _; rw [hr]; simp)
        have ix := IX.out
        have i1 : (q : Int) < 3 := by omega
        clear IX IY hr
        go_wp2_with fail
        go_roundw
        case rel => exact ⟨q + 1, A, c, by omega, by go_num, by rw [HW.out], by rw [HW.out]; exact hR, hO⟩
        case measure => simp [intOf]; omega
      | true =>
        rw [hr] at IX
        obtain ⟨v0, v1⟩ := HRV.out q hq3 hr
        have HW := hide (show wds i (q + 1) = wds i q ++ [bs (114 :: itoaF (rgV i q))] by show wds i q ++ _ = _; rw [hr]; simp)
        have ix := IX.out
        have iy := IY.out
        have i1 : (q : Int) < 3 := by omega
        have IT := hide (itoa_any (rgV i q) v0 v1)
        obtain ⟨v, hv⟩ : ∃ v, rgV i q = v := ⟨_, rfl⟩
        rw [hv] at IT iy HW
        have es := str_r (itoaF v)
        have hlv : ¬ 9223372036854775807 < 1 + (itoaF v).length := by have := itoaF_len v; omega
        obtain ⟨u, hu⟩ : ∃ u, bs (114 :: itoaF v) = u := ⟨_, rfl⟩
        rw [hu] at es HW
        have hlq := LW.out q
        obtain ⟨g', c', w4, e4, r4, o4⟩ := app_str wr V0.heap.size A c (wds i q) u hR.out (by omega) hO.out.size
        have HG := hide (own_ge hR.out)
        have R4 := hide r4
        have O4 := hide (hO.out.trans o4 (fun x hx => .inr (HG.out x hx).1))
        have b3 := B3.out.only hO.out (by simp)
        have x1 := b3.cell 1
        have x2 := b3.cell 2
        have x3 := b3.cell 3
        clear IX IY hr v0 v1 hv hu r4 o4 b3
        go_wp2_with (go_at_call 31; (with_reducible refine (IT.out _).mono ?_); rintro e w' ⟨rfl, hw⟩; obtain rfl := hw.symm; clear hw)
        go_roundw
        case rel => exact ⟨q + 1, some ⟨g', 0, none⟩, c', by omega, by go_num, by rw [HW.out]; simp, by rw [HW.out]; exact R4, O4⟩
        case measure => simp [intOf]; omega
    · obtain rfl : q = 3 := by omega
      have c3 := C3.out.only hO.out (by simp)
      have z4 := c3.cell 4
      have b3 := B3.out.only hO.out (by simp)
      have x4 := b3.cell 4
      have hl3 := LW.out 3
      have OF := hide (O3.out.trans0 hO.out)
      clear c3 b3
      by_cases hm0 : m = 0
      · have dm : ((m : Int) != 0) = false := by rw [hm0]; rfl
        have HJ := HLJ.out
        rw [if_neg (by omega), List.append_nil] at HJ
        have JN := join_any wr V0.heap.size A c (wds i 3) hR.out (by omega) (by omega) (by rw [HJ]; have := HLL.out; omega)
        rw [HJ] at JN
        have JN := hide JN
        clear HJ hm0
        go_wp2_with (go_at_call 97; (with_reducible refine JN.out.mono ?_); rintro e w5 ⟨rfl, o5⟩; have O5 := hide (OF.out.trans0 o5); clear o5)
        go_ret2
        exact ⟨rfl, O5.out⟩
      · have dm : ((m : Int) != 0) = true := by simp [hm0]
        have HJ := HLJ.out
        rw [if_pos hm0] at HJ
        have FM := hide (fmt_any i.imm h0 h1 wr (EV.out.only hO.out))
        obtain ⟨u, hu⟩ : ∃ u, bs (itoaF i.imm) = u := ⟨_, rfl⟩
        rw [hu] at HJ
        have AP := hide (fun W (o : Only [] wr W) => app_str W V0.heap.size A c (wds i 3) u (hR.out.only0 o) (by omega) (by have := o.size; have := hO.out.size; omega))
        have HJ := hide HJ
        have HU := hide hu
        clear hm0 hu
        go_wp2_with (first
          | (go_at_call 76; (with_reducible refine FM.out.mono ?_); rintro e w4 ⟨rfl, o4⟩; obtain ⟨g', c', w5, e5, r5, o5⟩ := AP.out w4 o4; rw [← HU.out] at e5; unfold bs at e5; have R5 := hide r5; have O5 := hide ((OF.out.trans0 o4).trans o5 (fun x hx => .inr (by have := (own_ge hR.out x hx).1; have := O3.out.size; omega))); have JN := join_any w5 V0.heap.size (some ⟨g', 0, none⟩) c' (wds i 3 ++ [u]) R5.out (by simp) (by simp; omega) (by rw [HJ.out]; have := HLL.out; omega); rw [show (wds i 3 ++ [u]).length = (wds i 3).length + 1 by simp, HJ.out] at JN; have JN := hide JN; clear o4 o5 r5)
          | (go_at_call 97; (with_reducible refine JN.out.mono ?_); rintro e w6 ⟨rfl, o6⟩; have O6 := hide (O5.out.trans0 o6); clear o6))
        go_ret2
        exact ⟨rfl, O6.out⟩
theorem line_any (i : Ins) (w : World) (he : Env w) (h0 : -9223372036854775808 ≤ i.imm) (h1 : i.imm ≤ 9223372036854775807) : Calls Tryz.prog 70 #[.agg (insV i)] w fun e w' => e = .returned (.tuple #[.string (if mayI i 256 then bs (lineB i) else bs []), .int .i64 (if mayI i 256 then 0 else 2)]) ∧ Only [] w w' := by
  cases hm : mayI i 256 with
  | true => exact line_good i w he hm h0 h1
  | false => exact line_bad i w hm
end Go.Proofs.YteblhklclcjonaaGreatDoor
