/- Turns: the walk of the law's stands. Condition: both turns lie. -/
import Derived.Test.YtnndengdlokmbaaTu27
import Derived.BigQuiet
namespace Go.Proofs.Ytnndengdlokmbaa
open Go.RowKit
set_option linter.unusedVariables false
set_option linter.all false
set_option maxRecDepth 20000

theorem prioB (x g : Nat) (Q : Int) (s : SS) (B : Int) (t v : Int) (b : Bool) (h1 : inS s t = b) (h2 : (if b then (prioQ s.q t.toNat : Int) else 0) = v) (W : World) (h : BS W x g Q s B) : Calls Try.prog 25 #[.pointer (some ⟨x, 0, none⟩), .int .i64 t] W fun e w' => e = .returned (.tuple #[.int .i64 v, .bool b]) ∧ W = w' := by
  obtain ⟨st, h3, h4, h5⟩ := h
  refine (tprio_spec x g Q s st t W h5).mono ?_
  rintro e w' ⟨he, hw⟩
  unfold pairE at he
  subst h1 h2
  exact ⟨he, hw.symm⟩
theorem lfB (x g : Nat) (Q : Int) (s : SS) (B : Int) (t v : Int) (b : Bool) (h1 : inS s t = b) (h2 : (if b then s.lf t.toNat else 0) = v) (W : World) (h : BS W x g Q s B) : Calls Try.prog 26 #[.pointer (some ⟨x, 0, none⟩), .int .i64 t] W fun e w' => e = .returned (.tuple #[.int .i64 v, .bool b]) ∧ W = w' := by
  obtain ⟨st, h3, h4, h5⟩ := h
  refine (tleft_spec x g Q s st t W h5).mono ?_
  rintro e w' ⟨he, hw⟩
  unfold pairE at he
  subst h1 h2
  exact ⟨he, hw.symm⟩
theorem lenA (x g : Nat) (Q : Int) (s : SS) (B : Int) (W : World) (h : BS W x g Q s B) : Calls Try.prog 32 #[.pointer (some ⟨x, 0, none⟩)] W fun e w' => e = .returned (.int .i64 (allQ s.q).length) ∧ Only [] W w' := by
  obtain ⟨st, h3, h4, h5⟩ := h
  exact tlen_spec x g Q s st W h5
/-- How many are below. -/
def lenB (s : SS) (p : Int) : Nat := (below s.q (min p.toNat 32)).length
theorem lenB_zero (s : SS) (p : Int) (hp : p ≤ 0) : lenB s p = 0 := by
  unfold lenB
  rw [show min p.toNat 32 = 0 by omega]
  rfl
theorem lenB_one (s : SS) (h : s.q 0 = []) : lenB s 1 = 0 := by
  unfold lenB
  show (below s.q 1).length = 0
  simp [below, h]
theorem lenB_step (s : SS) (p : Nat) (hp : p < 32) : lenB s ((p : Int) + 1) = lenB s p + (s.q p).length := by
  unfold lenB
  rw [show min ((p : Int) + 1).toNat 32 = p + 1 by omega, show min (p : Int).toNat 32 = p by omega, below]
  simp
  omega
theorem lenB_end (s : SS) (p : Int) (hp : 32 ≤ p) : lenB s p = (allQ s.q).length := by
  unfold lenB
  rw [show min p.toNat 32 = 32 by omega]
  rfl
theorem below_len (q : Nat → List Nat) (h : ∀ p, (q p).length ≤ 16) : ∀ n, (below q n).length ≤ 16 * n
  | 0 => by simp [below]
  | n + 1 => by have := below_len q h n; have := h n; rw [below]; simp; omega
theorem lenB_le (s : SS) (h : ∀ p, (s.q p).length ≤ 16) (p : Int) : lenB s p ≤ 512 := by
  unfold lenB
  have := below_len s.q h (min p.toNat 32)
  omega
theorem ofL_in (s : SS) (p : Nat) (h1 : 1 ≤ p) (h2 : p ≤ 31) : ofL s p = s.q p := by unfold ofL; rw [if_pos ⟨by omega, by omega⟩, Int.toNat_natCast]
theorem ofL_out (s : SS) (p : Int) (h : ¬ (1 ≤ p ∧ p ≤ 31)) : ofL s p = [] := by unfold ofL; rw [if_neg h]
/-- The block of a slice that is one's own. -/
theorem own_blk {w : World} {base N c : Nat} {A : Option Addr} {l : List Nat} (hN : l.length = N) (h : w.ownsRow base 3 1 (.slice A N c) N (NV l)) : 0 < N → ∃ g cs, A = some ⟨g, 0, none⟩ ∧ base ≤ g ∧ Blk w g 3 cs ∧ N ≤ cs.size := fun hp => by
  obtain ⟨g, cs, e, hb, hc⟩ := Row.own' hN h (by omega)
  have hge := own_ge h g (by subst e; simp [blkOf])
  refine ⟨g, cs, e, hge.1, hb, ?_⟩
  have h1 := hc (N - 1) (l[N - 1]'(by omega)) (List.getElem?_eq_getElem _)
  have := (Array.getElem?_eq_some_iff.1 h1).1
  omega
def StE (w : World) (x g d : Nat) (Q : Int) (s : SS) (B : Int) (e : Ending) (w' : World) : Prop := e = .returned (.bool true) ∧ BS w' x g Q s B ∧ DT w' d Q s ∧ Only [x, g, d] w w'
set_option maxHeartbeats 8000000 in
theorem stands_any (x g d : Nat) (Q : Int) (s : SS) (B : Int) (hB : B < 700000) (w : World) (h : BS w x g Q s B) (hd : DT w d Q s) :
    Calls Try.prog 22 #[.pointer (some ⟨x, 0, none⟩), .pointer (some ⟨d, 0, none⟩)] w (StE w x g d Q s (B + 9)) := by
  obtain ⟨f1, f2, -, -⟩ := h.facts
  obtain ⟨fr, hfr⟩ : ∃ fr, firstT s.q = fr := ⟨_, rfl⟩
  obtain ⟨bz, hbz⟩ : ∃ bz, decide (allQ s.q ≠ []) = bz := ⟨_, rfl⟩
  have RU := hide (whoB x g Q s B (B + 9) hB rfl fr bz hbz hfr w h)
  have DD := hide (fun V (o : Only [x, g] w V) => druns d Q s V (hd.only o h.noRow (h.ned hd)) h.ok)
  rw [hfr, hbz] at DD
  have HD := hide hd
  have NR := hide h.noRow
  have ND := hide (h.ned hd)
  have F1 := hide f1
  have F2 := hide f2
  have HLE := hide (lenB_le s f2)
  clear h hd hfr hbz f1 f2
  go_enter Try.func22, Try.ntmps22
  go_wp2_with (first
    | (go_at_call 48; (with_reducible refine (DD.out _ o2).mono ?_); rintro e w3 ⟨rfl, hw⟩; obtain rfl := hw)
    | (go_at_call 14; (with_reducible refine RU.out.mono ?_); rintro e w2 ⟨rfl, B2, o2⟩))
  have D2 := HD.out.only o2 NR.out ND.out
  go_loopw [9, 10, 11, 12] (fun vn vp _ _ wr => ∃ p : Int, -1 ≤ p ∧ p ≤ 33 ∧ vp = .int .i64 p ∧ vn = .int .i64 (lenB s p) ∧ Only [] w2 wr) (fun _ vp _ _ _ => (33 - intOf vp).toNat)
  case atStart => exact ⟨-1, by omega, by omega, rfl, by rw [lenB_zero s _ (by omega)]; rfl, Only.refl _ _⟩
  case round =>
    obtain ⟨p, p1, p2, rfl, rfl, hO⟩ := hrel
    have HO := hide hO
    have HB2 := hide B2
    have HD2 := hide D2
    have HO2 := hide o2
    have hle := HLE.out p
    clear hO B2 D2 o2
    by_cases hlt : p ≤ 32
    · have d0 : decide (p ≤ 32) = true := decide_eq_true hlt
      have e1 : IntKind.i64.wrap (p + 1) = p + 1 := IntWalk.i64_in _ (by omega)
      by_cases hin : 1 ≤ p ∧ p ≤ 31
      · obtain ⟨P, rfl⟩ : ∃ P : Nat, p = P := ⟨p.toNat, by omega⟩
        obtain ⟨N, hN⟩ : ∃ N, (s.q P).length = N := ⟨_, rfl⟩
        have hN16 : N ≤ 16 := hN ▸ F2.out P
        have OF := hide (ofN P (by omega) (by omega) N hN wr (HB2.out.only HO.out (by simp) (by simp)))
        obtain ⟨A5, c5, k5, r5⟩ := DR.cS (HD2.out.only0 HO.out) (p := P) (by omega)
        rw [hN] at k5
        have HL := hide (lenB_step s P (by omega))
        rw [hN] at HL
        have HN := hide hN
        have HR5 := hide r5
        have d1 : decide ((P : Int) < 1) = false := decide_eq_false (by omega)
        have d2 : decide (31 < (P : Int)) = false := decide_eq_false (by omega)
        have d3 : decide (P = 0) = false := decide_eq_false (by omega)
        have i1 : (0 : Int) ≤ (P : Int) := by omega
        have i2 : (P : Int) < 32 := by omega
        have e2 : IntKind.i64.wrap ((lenB s P : Int) + (N : Int)) = (lenB s P : Int) + (N : Int) := IntWalk.i64_in _ (by omega)
        clear hN r5 hin
        go_wp2_with (first
          | (go_at_call 16; (with_reducible refine OF.out.mono ?_); rintro e w6 ⟨⟨A2, c2, rfl, own2⟩, hB7, o7⟩; have k6 := o7.keep0 k5; have H6 := hide (Row.only HR5.out o7 (NoRow.nil _)).nsrc; have H7 := hide (Nsrc.own' HN.out own2); have HBK := hide (own_blk HN.out own2); clear own2)
          | (go_at_call 18; (with_reducible refine (ints_same A2 A5 c2 c5 N (s.q P) HN.out (by omega) _ H7.out H6.out).mono ?_); rintro e w7 ⟨rfl, o8⟩))
        have OA := hide (o7.trans0 o8)
        have B8 : 0 < N → ∃ g cs, A2 = some ⟨g, 0, none⟩ ∧ wr.heap.size ≤ g ∧ Blk w7 g 3 cs ∧ N ≤ cs.size := fun hp => by
          obtain ⟨g1, cs1, e1, l1, b1, z1⟩ := HBK.out hp
          exact ⟨g1, cs1, e1, l1, b1.only o8 (by simp), z1⟩
        clear hB7 o7 o8 k5 k6
        go_loopw [12] (fun vi wi => ∃ i : Nat, i ≤ N ∧ vi = .int .i64 i ∧ Only [] wr wi ∧ (0 < N → ∃ g cs, A2 = some ⟨g, 0, none⟩ ∧ wr.heap.size ≤ g ∧ Blk wi g 3 cs ∧ N ≤ cs.size)) (fun vi _ => N - (intOf vi).toNat)
        case atStart => exact ⟨0, by omega, rfl, OA.out, B8⟩
        case round =>
          clear B8
          obtain ⟨i, hi, rfl, ho, hb⟩ := hrel
          by_cases hltn : i < N
          · obtain ⟨g1, cs1, rfl, l1, b1, z1⟩ := hb (by omega)
            have c1 := (b1.cell i).trans (Array.getElem?_eq_getElem (show i < cs1.size by omega))
            have fz := b1.frozen i
            have j1 : (i : Int) < (N : Int) := by omega
            have j0 : (0 : Int) ≤ (i : Int) := by omega
            have HB1 := hide (b1.set_ i (.int .i64 99))
            have HO1 := hide (ho.setCell (p := ⟨g1, i, none⟩) (.inr l1) (.int .i64 99))
            clear hb b1 ho
            go_wp2_with fail
            go_roundw
            case rel => exact ⟨i + 1, by omega, by go_num, HO1.out, fun _ => ⟨g1, _, rfl, l1, HB1.out, by simpa using z1⟩⟩
            case measure => simp [intOf]; omega
          · obtain rfl : i = N := by omega
            have HO1 := hide ho
            clear hb ho
            go_wp2_with fail
            go_roundw
            case rel => exact ⟨(P : Int) + 1, by omega, by omega, by go_num, by rw [HL.out]; simp, HO.out.trans0 HO1.out⟩
            case measure => simp [intOf]; omega
      · have OF := hide (ofB x g Q s (B + 9) (B + 9) rfl p [] (ofL_out s p hin) 0 rfl wr (HB2.out.only HO.out (by simp) (by simp)))
        have HLL : lenB s (p + 1) = lenB s p := by
          rcases (show p < 0 ∨ p = 0 ∨ 32 ≤ p by omega) with h | h | h
          · rw [lenB_zero s _ (by omega), lenB_zero s _ (by omega)]
          · subst h
            rw [lenB_zero s 0 (by omega)]
            exact lenB_one s F1.out
          · rw [lenB_end s _ (by omega), lenB_end s _ (by omega)]
        have HLL := hide HLL
        have d2 : (decide (p < 1) || decide (31 < p)) = true := by simp; omega
        by_cases hp1 : p < 1
        · have d1 : decide (p < 1) = true := decide_eq_true hp1
          clear hin hp1
          go_wp2_with (go_at_call 16; (with_reducible refine OF.out.mono ?_); rintro e w6 ⟨⟨A2, c2, rfl, own2⟩, hB7, o7⟩; clear own2)
          go_roundw
          case rel => exact ⟨p + 1, by omega, by omega, by go_num, by rw [HLL.out], HO.out.trans0 o7⟩
          case measure => simp [intOf]; omega
        · have d1 : decide (p < 1) = false := decide_eq_false hp1
          have d3 : decide (31 < p) = true := decide_eq_true (by omega)
          clear hin hp1
          go_wp2_with (go_at_call 16; (with_reducible refine OF.out.mono ?_); rintro e w6 ⟨⟨A2, c2, rfl, own2⟩, hB7, o7⟩; clear own2)
          go_roundw
          case rel => exact ⟨p + 1, by omega, by omega, by go_num, by rw [HLL.out], HO.out.trans0 o7⟩
          case measure => simp [intOf]; omega
    · obtain rfl : p = 33 := by omega
      have HEnd := hide (lenB_end s 33 (by omega))
      have BW := HB2.out.only HO.out (by simp) (by simp)
      have DW := HD2.out.only0 HO.out
      have OW := hide (HO2.out.trans0 HO.out)
      have LEN := fun V (o : Only [] wr V) => lenA x g Q s (B + 9) V (BW.only o (by simp) (by simp))
      rw [← HEnd.out] at LEN
      obtain ⟨M, hM⟩ : ∃ M, lenB s 33 = M := ⟨_, rfl⟩
      rw [hM] at LEN hle ⊢
      have LEN := hide LEN
      have HBW := hide BW
      have HDW := hide DW
      clear BW DW hM
      go_wp2_with fail
      go_loopw [13, 14, 15, 16, 17, 18] (fun vt _ _ _ _ _ wi => ∃ t : Int, -1 ≤ t ∧ t ≤ 17 ∧ vt = .int .i64 t ∧ wr = wi) (fun vt _ _ _ _ _ _ => (17 - intOf vt).toNat)
      case atStart => exact ⟨-1, by omega, by omega, rfl, rfl⟩
      case round =>
        obtain ⟨t, t1, t2, rfl, hw⟩ := hrel
        obtain rfl := hw
        by_cases htl : t ≤ 16
        · have d0 : decide (t ≤ 16) = true := decide_eq_true htl
          have e1 : IntKind.i64.wrap (t + 1) = t + 1 := IntWalk.i64_in _ (by omega)
          by_cases hin : 0 ≤ t ∧ t < 16
          · obtain ⟨T, rfl⟩ : ∃ T : Nat, t = T := ⟨t.toNat, by omega⟩
            have t16 : T < 16 := by omega
            have MA := hide (refMay_any T 1 true (decide_eq_true ⟨by omega, by omega, by omega, by omega⟩) wr)
            have kP := DR.cP HDW.out t16
            have kL := DR.cL HDW.out t16
            obtain ⟨v, hv⟩ : ∃ v, prioQ s.q T = v := ⟨_, rfl⟩
            obtain ⟨l, hl⟩ : ∃ l, s.lf T = l := ⟨_, rfl⟩
            simp only [hv, hl] at kP kL
            have i1 : (0 : Int) ≤ (T : Int) := by omega
            have i2 : (T : Int) < 16 := by omega
            by_cases hz : v = 0
            · have hS : inS s T = false := by unfold inS; simp [hv, hz]
              have PB := hide (prioB x g Q s (B + 9) T 0 false hS rfl wr HBW.out)
              have LB := hide (lfB x g Q s (B + 9) T 0 false hS rfl wr HBW.out)
              subst hz
              clear hS hv hl hin
              go_wp2_with (first
                | (go_at_call 25; (with_reducible refine PB.out.mono ?_); rintro e w6 ⟨rfl, hw⟩; obtain rfl := hw)
                | (go_at_call 26; (with_reducible refine LB.out.mono ?_); rintro e w6 ⟨rfl, hw⟩; obtain rfl := hw)
                | (go_at_call 15; (with_reducible refine MA.out.mono ?_); rintro e w6 ⟨rfl, hw⟩; obtain rfl := hw))
              go_roundw
              case rel => exact ⟨(T : Int) + 1, by omega, by omega, by go_num, trivial⟩
              case measure => simp [intOf]; omega
            · have hS : inS s T = true := by unfold inS; simp [hv, hz]; omega
              have PB := hide (prioB x g Q s (B + 9) T v true hS (by simp [hv]) wr HBW.out)
              have LB := hide (lfB x g Q s (B + 9) T l true hS (by simp [hl]) wr HBW.out)
              have g0 : decide (0 < v) = true := decide_eq_true (by omega)
              clear hS hv hl hin
              go_wp2_with (first
                | (go_at_call 25; (with_reducible refine PB.out.mono ?_); rintro e w6 ⟨rfl, hw⟩; obtain rfl := hw)
                | (go_at_call 26; (with_reducible refine LB.out.mono ?_); rintro e w6 ⟨rfl, hw⟩; obtain rfl := hw)
                | (go_at_call 15; (with_reducible refine MA.out.mono ?_); rintro e w6 ⟨rfl, hw⟩; obtain rfl := hw))
              go_roundw
              case rel => exact ⟨(T : Int) + 1, by omega, by omega, by go_num, trivial⟩
              case measure => simp [intOf]; omega
          · have MA := hide (refMay_any t 1 false (decide_eq_false fun h => hin ⟨h.1, h.2.1⟩) wr)
            have hS : inS s t = false := by unfold inS; exact decide_eq_false fun h => hin ⟨h.1, h.2.1⟩
            have PB := hide (prioB x g Q s (B + 9) t 0 false hS rfl wr HBW.out)
            have LB := hide (lfB x g Q s (B + 9) t 0 false hS rfl wr HBW.out)
            clear hS hin
            go_wp2_with (first
              | (go_at_call 25; (with_reducible refine PB.out.mono ?_); rintro e w6 ⟨rfl, hw⟩; obtain rfl := hw)
              | (go_at_call 26; (with_reducible refine LB.out.mono ?_); rintro e w6 ⟨rfl, hw⟩; obtain rfl := hw)
              | (go_at_call 15; (with_reducible refine MA.out.mono ?_); rintro e w6 ⟨rfl, hw⟩; obtain rfl := hw))
            go_roundw
            case rel => exact ⟨t + 1, by omega, by omega, by go_num, trivial⟩
            case measure => simp [intOf]; omega
        · obtain rfl : t = 17 := by omega
          go_wp2_with (go_at_call 32; (with_reducible refine (LEN.out _ (Only.refl _ _)).mono ?_); rintro e w6 ⟨rfl, o6⟩)
          go_ret
          exact ⟨rfl, HBW.out.only o6 (by simp) (by simp), HDW.out.only0 o6, (OW.out.trans0 o6).mono (fun k hk => .inl (by simp at hk; rcases hk with rfl | rfl <;> simp))⟩
end Go.Proofs.Ytnndengdlokmbaa
