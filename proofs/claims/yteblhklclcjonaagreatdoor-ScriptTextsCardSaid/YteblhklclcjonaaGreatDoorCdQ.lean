/- Code: programs and texts searched; the walk of CheckJob. Condition: the job's cells. -/
import Derived.Test.YteblhklclcjonaaGreatDoorCdP
namespace Go.Proofs.YteblhklclcjonaaGreatDoor
open Go.RowKit
set_option linter.unusedVariables false
set_option linter.all false
set_option maxRecDepth 20000

structure Pg where
  A : Option Addr
  n : Nat
  c : Nat
  f : Nat → Ins
def PgsAt (w : World) (A : Option Addr) (n : Nat) (P : Nat → Pg) : Prop := ∀ k, k < n → ∃ a : Addr, A = some a ∧ w.cell? (a.add k) = some (.slice (P k).A (P k).n (P k).c) ∧ (P k).n ≤ maxLen ∧ InsAt w (P k).A (P k).n (P k).f
theorem PgsAt.only0 {w W : World} {A : Option Addr} {n : Nat} {P : Nat → Pg} (h : PgsAt w A n P) (o : Only [] w W) : PgsAt W A n P := fun k hk => by
  obtain ⟨a, h0, h1, h2, h3⟩ := h k hk
  exact ⟨a, h0, o.keep0 h1, h2, h3.only0 o⟩
def TxsAt (w : World) (A : Option Addr) (n : Nat) (T : Nat → ByteArray) : Prop := ∀ k, k < n → ∃ a : Addr, A = some a ∧ w.cell? (a.add k) = some (.string (T k))
theorem TxsAt.only0 {w W : World} {A : Option Addr} {n : Nat} {T : Nat → ByteArray} (h : TxsAt w A n T) (o : Only [] w W) : TxsAt W A n T := fun k hk => by
  obtain ⟨a, h0, h1⟩ := h k hk
  exact ⟨a, h0, o.keep0 h1⟩
def badG (P : Nat → Pg) (k : Nat) : Bool := badP (P k).n (P k).f
def longG (T : Nat → ByteArray) (k : Nat) : Bool := decide (64 < (T k).size)
theorem long1_any (s : ByteArray) (w : World) : Calls Tryz.prog 67 #[.string s] w fun e w' => e = .returned (.bool (decide (64 < s.size))) ∧ Only [] w w' := by
  obtain ⟨b, hb⟩ : ∃ b, decide (64 < s.size) = b := ⟨_, rfl⟩
  have hb' : decide ((64 : Int) < (s.size : Int)) = b := by rw [← hb]; exact decide_eq_decide.2 (by omega)
  go_enter Tryz.func67, Tryz.ntmps67
  go_wp2_with fail
  go_ret
  exact ⟨by rw [← hb]; rfl, Only.refl _ _⟩
set_option maxHeartbeats 4000000 in
theorem indexP_any (A : Option Addr) (n c : Nat) (X : Nat → Pg) (w : World) (hA : PgsAt w A n X) (hn : n ≤ maxLen) : Calls Tryz.prog 93 #[.slice A n c, .func (.func 63) #[] #[]] w fun e w' => e = .returned (.int .i64 (fb (badG X) n)) ∧ Only [] w w' := by
  unfold maxLen at hn
  have HA := hide hA
  clear hA
  go_enter Tryz.func93, Tryz.ntmps93
  go_wp2_with fail
  go_loopw [8] (fun v8 wr => ∃ q : Nat, q ≤ n ∧ v8 = .int .i64 q ∧ Hid (∀ j, j < q → badG X j = false) ∧ Hid (Only [] w wr)) (fun v8 _ => n - (intOf v8).toNat)
  case atStart => exact ⟨0, by omega, rfl, hide (fun j hj => by omega), hide (Only.refl _ _)⟩
  case round =>
    obtain ⟨q, hq, rfl, hz, hO⟩ := hrel
    by_cases hqn : q < n
    · obtain ⟨a, rfl, e0, e1, e2⟩ := HA.out q hqn
      have c0 := hO.out.keep0 e0
      have IA := e2.only0 hO.out
      clear e0 e2
      have C1 := bad1_any (X q).A (X q).n (X q).c (X q).f wr IA e1
      obtain ⟨b, hb⟩ : ∃ b, badG X q = b := ⟨_, rfl⟩
      rw [show badP (X q).n (X q).f = b from hb] at C1
      have C1 := hide C1
      have HBq := hide hb
      have j0 : (0 : Int) ≤ (q : Int) := by omega
      have j1 : (q : Int) < (n : Int) := by omega
      clear hb
      cases b with
      | false =>
        go_wp2_with (go_at_call 63; (with_reducible refine C1.out.mono ?_); rintro e w1 ⟨rfl, o⟩; have O2 := hide (hO.out.trans0 o); clear o)
        go_roundw
        case rel => exact ⟨q + 1, by omega, by go_num, hide (fun j hj => by
          rcases (by omega : j < q ∨ j = q) with h | h
          · exact hz.out j h
          · subst h; exact HBq.out), O2⟩
        case measure => simp [intOf]; omega
      | true =>
        have hfb := hide (fb_at hqn HBq.out hz.out)
        go_wp2_with (go_at_call 63; (with_reducible refine C1.out.mono ?_); rintro e w1 ⟨rfl, o⟩; have O2 := hide (hO.out.trans0 o); clear o)
        go_ret
        exact ⟨by rw [hfb.out]; rfl, O2.out⟩
    · obtain rfl : q = n := by omega
      have hfb := hide (fb_none hz.out)
      go_wp2_with fail
      go_ret
      exact ⟨by rw [hfb.out]; rfl, hO.out⟩
set_option maxHeartbeats 4000000 in
theorem indexT_any (A : Option Addr) (n c : Nat) (X : Nat → ByteArray) (w : World) (hA : TxsAt w A n X) (hn : n ≤ maxLen) : Calls Tryz.prog 94 #[.slice A n c, .func (.func 67) #[] #[]] w fun e w' => e = .returned (.int .i64 (fb (longG X) n)) ∧ Only [] w w' := by
  unfold maxLen at hn
  have HA := hide hA
  clear hA
  go_enter Tryz.func94, Tryz.ntmps94
  go_wp2_with fail
  go_loopw [8] (fun v8 wr => ∃ q : Nat, q ≤ n ∧ v8 = .int .i64 q ∧ Hid (∀ j, j < q → longG X j = false) ∧ Hid (Only [] w wr)) (fun v8 _ => n - (intOf v8).toNat)
  case atStart => exact ⟨0, by omega, rfl, hide (fun j hj => by omega), hide (Only.refl _ _)⟩
  case round =>
    obtain ⟨q, hq, rfl, hz, hO⟩ := hrel
    by_cases hqn : q < n
    · obtain ⟨a, rfl, e0⟩ := HA.out q hqn
      have c0 := hO.out.keep0 e0
      clear e0
      have C1 := long1_any (X q) wr
      obtain ⟨b, hb⟩ : ∃ b, longG X q = b := ⟨_, rfl⟩
      rw [show decide (64 < (X q).size) = b from hb] at C1
      have C1 := hide C1
      have HBq := hide hb
      have j0 : (0 : Int) ≤ (q : Int) := by omega
      have j1 : (q : Int) < (n : Int) := by omega
      clear hb
      cases b with
      | false =>
        go_wp2_with (go_at_call 67; (with_reducible refine C1.out.mono ?_); rintro e w1 ⟨rfl, o⟩; have O2 := hide (hO.out.trans0 o); clear o)
        go_roundw
        case rel => exact ⟨q + 1, by omega, by go_num, hide (fun j hj => by
          rcases (by omega : j < q ∨ j = q) with h | h
          · exact hz.out j h
          · subst h; exact HBq.out), O2⟩
        case measure => simp [intOf]; omega
      | true =>
        have hfb := hide (fb_at hqn HBq.out hz.out)
        go_wp2_with (go_at_call 67; (with_reducible refine C1.out.mono ?_); rintro e w1 ⟨rfl, o⟩; have O2 := hide (hO.out.trans0 o); clear o)
        go_ret
        exact ⟨by rw [hfb.out]; rfl, O2.out⟩
    · obtain rfl : q = n := by omega
      have hfb := hide (fb_none hz.out)
      go_wp2_with fail
      go_ret
      exact ⟨by rw [hfb.out]; rfl, hO.out⟩
theorem hasP_any (A : Option Addr) (n c : Nat) (X : Nat → Pg) (w : World) (hA : PgsAt w A n X) (hn : n ≤ maxLen) : Calls Tryz.prog 65 #[.slice A n c, .func (.func 63) #[] #[]] w fun e w' => e = .returned (.bool (decide (0 ≤ fb (badG X) n))) ∧ Only [] w w' := by
  have IX := indexP_any A n c X w hA hn
  obtain ⟨r, hr⟩ : ∃ r, fb (badG X) n = r := ⟨_, rfl⟩
  rw [hr] at IX ⊢
  have IX := hide IX
  clear hr hA
  go_enter Tryz.func65, Tryz.ntmps65
  go_wp2_with (go_at_call 93; (with_reducible refine IX.out.mono ?_); rintro e w1 ⟨rfl, o⟩; have O2 := hide o; clear o)
  go_ret
  exact ⟨rfl, O2.out⟩
theorem hasT_any (A : Option Addr) (n c : Nat) (X : Nat → ByteArray) (w : World) (hA : TxsAt w A n X) (hn : n ≤ maxLen) : Calls Tryz.prog 66 #[.slice A n c, .func (.func 67) #[] #[]] w fun e w' => e = .returned (.bool (decide (0 ≤ fb (longG X) n))) ∧ Only [] w w' := by
  have IX := indexT_any A n c X w hA hn
  obtain ⟨r, hr⟩ : ∃ r, fb (longG X) n = r := ⟨_, rfl⟩
  rw [hr] at IX ⊢
  have IX := hide IX
  clear hr hA
  go_enter Tryz.func66, Tryz.ntmps66
  go_wp2_with (go_at_call 94; (with_reducible refine IX.out.mono ?_); rintro e w1 ⟨rfl, o⟩; have O2 := hide o; clear o)
  go_ret
  exact ⟨rfl, O2.out⟩
/-- A job in memory. -/
structure Jb where
  t : Int
  o : Int
  s : Int
  q : Int
  m : Int
  p : Int
  pA : Option Addr
  pn : Nat
  pc : Nat
  P : Nat → Pg
  tA : Option Addr
  tn : Nat
  tc : Nat
  T : Nat → ByteArray
def jobV (J : Jb) : Array Value := #[.int .i64 J.t, .int .i64 J.o, .int .i64 J.s, .int .i64 J.q, .int .i64 J.m, .int .i64 J.p, .slice J.pA J.pn J.pc, .slice J.tA J.tn J.tc]
def JbAt (w : World) (J : Jb) : Prop := PgsAt w J.pA J.pn J.P ∧ TxsAt w J.tA J.tn J.T ∧ J.pn ≤ maxLen ∧ J.tn ≤ maxLen
def v9 (J : Jb) : Nat → Int
  | 0 => J.t
  | 1 => J.o
  | 2 => J.s
  | 3 => J.q
  | 4 => J.m
  | 5 => J.p
  | 6 => J.pn
  | 7 => J.tn
  | _ => J.m.tmod 8
def lo9 : Nat → Int
  | 4 => 256
  | 7 => 0
  | 8 => 0
  | _ => 1
def hi9 : Nat → Int
  | 0 => 16
  | 1 => 8
  | 2 => 32
  | 3 => 100
  | 4 => 65536
  | 5 => 31
  | 6 => 32
  | 7 => 32
  | _ => 0
def rows9 (v : Nat → Int) : Array Value := #[.int .i64 (v 0), .int .i64 (1), .int .i64 (16), .int .i64 (v 1), .int .i64 (1), .int .i64 (8), .int .i64 (v 2), .int .i64 (1), .int .i64 (32), .int .i64 (v 3), .int .i64 (1), .int .i64 (100), .int .i64 (v 4), .int .i64 (256), .int .i64 (65536), .int .i64 (v 5), .int .i64 (1), .int .i64 (31), .int .i64 (v 6), .int .i64 (1), .int .i64 (32), .int .i64 (v 7), .int .i64 (0), .int .i64 (32), .int .i64 (v 8), .int .i64 (0), .int .i64 (0)]
theorem rows9_get (v : Nat → Int) : ∀ q, q < 9 → (rows9 v)[q * 3]? = some (.int .i64 (v q)) ∧ (rows9 v)[q * 3 + 1]? = some (.int .i64 (lo9 q)) ∧ (rows9 v)[q * 3 + 2]? = some (.int .i64 (hi9 q)) := by
  intro q hq
  rcases (by omega : q = 0 ∨ q = 1 ∨ q = 2 ∨ q = 3 ∨ q = 4 ∨ q = 5 ∨ q = 6 ∨ q = 7 ∨ q = 8) with h | h | h | h | h | h | h | h | h
  all_goals (subst h; exact ⟨rfl, rfl, rfl⟩)
def rowsP (J : Jb) : Prop := ∀ q, q < 9 → lo9 q ≤ v9 J q ∧ v9 J q ≤ hi9 q
open Classical in
/-- What CheckJob answers. -/
noncomputable def jobE (J : Jb) : Int := if rowsP J ∧ fb (badG J.P) J.pn = -1 ∧ fb (longG J.T) J.tn = -1 then 0 else 2
theorem jobE_row {J : Jb} {q : Nat} (hq : q < 9) (h : v9 J q < lo9 q ∨ hi9 q < v9 J q) : jobE J = 2 := if_neg (fun hc => by have := hc.1 q hq; omega)
theorem jobE_prog {J : Jb} (h : 0 ≤ fb (badG J.P) J.pn) : jobE J = 2 := if_neg (fun hc => by have := hc.2.1; omega)
theorem jobE_text {J : Jb} (h : 0 ≤ fb (longG J.T) J.tn) : jobE J = 2 := if_neg (fun hc => by have := hc.2.2; omega)
theorem jobE_ok {J : Jb} (h1 : rowsP J) (h2 : ¬ 0 ≤ fb (badG J.P) J.pn) (h3 : ¬ 0 ≤ fb (longG J.T) J.tn) : jobE J = 0 := by
  rcases fb_ge (badG J.P) J.pn with h4 | ⟨k, _, h4, _⟩
  · rcases fb_ge (longG J.T) J.tn with h5 | ⟨k, _, h5, _⟩
    · exact if_pos ⟨h1, h4, h5⟩
    · omega
  · omega
set_option maxHeartbeats 16000000 in
theorem checkjob_any (J : Jb) (w : World) (hJ : JbAt w J) : Calls Tryz.prog 38 #[.agg (jobV J)] w fun e w' => e = .returned (.int .i64 (jobE J)) ∧ Only [] w w' := by
  obtain ⟨hP, hT, hpn, htn⟩ := hJ
  have HP := hide (fun W (o : Only [] w W) => hasP_any J.pA J.pn J.pc J.P W (hP.only0 o) hpn)
  have HT := hide (fun W (o : Only [] w W) => hasT_any J.tA J.tn J.tc J.T W (hT.only0 o) htn)
  have b1 := Blk.new w 52 (jobV J)
  have o1 := (Only.refl [] w).alloc (.cells (jobV J) 52)
  unfold jobV at b1 o1
  unfold jobV
  unfold maxLen at hpn htn
  have x0 := b1.cell 0
  have x1 := b1.cell 1
  have x2 := b1.cell 2
  have x3 := b1.cell 3
  have x4 := b1.cell 4
  have x5 := b1.cell 5
  have x6 := b1.cell 6
  have x7 := b1.cell 7
  have B1 := hide b1
  have O1 := hide o1
  clear hP hT b1 o1
  go_enter Tryz.func38, Tryz.ntmps38
  go_wp2_with fail
  obtain ⟨X, hX⟩ : ∃ X, w.heap.size = X := ⟨_, rfl⟩
  have bR := Blk.new (w.alloc (.cells #[.int .i64 J.t, .int .i64 J.o, .int .i64 J.s, .int .i64 J.q, .int .i64 J.m, .int .i64 J.p, .slice J.pA J.pn J.pc, .slice J.tA J.tn J.tc] 52)) 111 (rows9 (v9 J))
  have oV := O1.out.alloc (.cells (rows9 (v9 J)) 111)
  have bJ := B1.out.alloc (.cells (rows9 (v9 J)) 111)
  have hrw : rows9 (v9 J) = #[.int .i64 (J.t), .int .i64 (1), .int .i64 (16), .int .i64 (J.o), .int .i64 (1), .int .i64 (8), .int .i64 (J.s), .int .i64 (1), .int .i64 (32), .int .i64 (J.q), .int .i64 (1), .int .i64 (100), .int .i64 (J.m), .int .i64 (256), .int .i64 (65536), .int .i64 (J.p), .int .i64 (1), .int .i64 (31), .int .i64 (J.pn), .int .i64 (1), .int .i64 (32), .int .i64 (J.tn), .int .i64 (0), .int .i64 (32), .int .i64 (J.m.tmod 8), .int .i64 (0), .int .i64 (0)] := rfl
  rw [World.size_alloc, hX] at bR
  rw [hX] at bJ
  rw [← hrw]
  simp only [hX]
  obtain ⟨V, hV⟩ : ∃ V, (w.alloc (.cells #[.int .i64 J.t, .int .i64 J.o, .int .i64 J.s, .int .i64 J.q, .int .i64 J.m, .int .i64 J.p, .slice J.pA J.pn J.pc, .slice J.tA J.tn J.tc] 52)).alloc (.cells (rows9 (v9 J)) 111) = V := ⟨_, rfl⟩
  rw [hV] at bR oV bJ ⊢
  obtain ⟨R, hR⟩ : ∃ R, X + 1 = R := ⟨_, rfl⟩
  rw [hR] at bR ⊢
  have BR := hide bR
  have OV := hide oV
  have BJ := hide bJ
  clear hR hV hX hrw bR oV bJ B1 O1 x0 x1 x2 x3 x4 x5 x6 x7
  go_loopw [38] (fun v38 wr => ∃ q : Nat, q ≤ 9 ∧ v38 = .int .i64 q ∧ Hid (∀ j, j < q → lo9 j ≤ v9 J j ∧ v9 J j ≤ hi9 j) ∧ Hid (Only [] V wr)) (fun v38 _ => 9 - (intOf v38).toNat)
  case atStart => exact ⟨0, by omega, rfl, hide (fun j hj => by omega), hide (Only.refl _ _)⟩
  case round =>
    obtain ⟨q, hq, rfl, hz, hO⟩ := hrel
    by_cases hq9 : q < 9
    · obtain ⟨g0, g1, g2⟩ := rows9_get (v9 J) q hq9
      have c0 := ((BR.out.only hO.out (by simp)).cell (q * 3)).trans g0
      have c1 := ((BR.out.only hO.out (by simp)).cell (q * 3 + 1)).trans g1
      have c2 := ((BR.out.only hO.out (by simp)).cell (q * 3 + 2)).trans g2
      have hbad := fun h => jobE_row (J := J) hq9 h
      have hz' := hide (fun (h : lo9 q ≤ v9 J q ∧ v9 J q ≤ hi9 q) j (hj : j < q + 1) => show lo9 j ≤ v9 J j ∧ v9 J j ≤ hi9 j from by
        rcases (by omega : j < q ∨ j = q) with h1 | h1
        · exact hz.out j h1
        · subst h1; exact h)
      obtain ⟨v, hv⟩ : ∃ v, v9 J q = v := ⟨_, rfl⟩
      obtain ⟨lo, hlo⟩ : ∃ v, lo9 q = v := ⟨_, rfl⟩
      obtain ⟨hi, hhi⟩ : ∃ v, hi9 q = v := ⟨_, rfl⟩
      rw [hv] at c0
      rw [hlo] at c1
      rw [hhi] at c2
      rw [hv, hlo, hhi] at hbad hz'
      have j0 : (0 : Int) ≤ (q : Int) := by omega
      have j1 : (q : Int) < 9 := by omega
      have hb := Blk.new wr 111 #[.int .i64 v, .int .i64 lo, .int .i64 hi]
      have O2 := hide (hO.out.alloc (.cells #[.int .i64 v, .int .i64 lo, .int .i64 hi] 111))
      have y0 := hb.cell 0
      have y1 := hb.cell 1
      have y2 := hb.cell 2
      clear g0 g1 g2 hv hlo hhi hb
      by_cases h1 : v < lo
      · have d1 : decide (v < lo) = true := decide_eq_true h1
        have hE := hide (hbad (.inl h1))
        clear h1 hbad
        go_wp2_with fail
        go_ret
        exact ⟨by rw [hE.out]; rfl, OV.out.trans0 O2.out⟩
      · have d1 : decide (v < lo) = false := decide_eq_false h1
        by_cases h2 : hi < v
        · have d2 : decide (hi < v) = true := decide_eq_true h2
          have hE := hide (hbad (.inr h2))
          clear h1 h2 hbad
          go_wp2_with fail
          go_ret
          exact ⟨by rw [hE.out]; rfl, OV.out.trans0 O2.out⟩
        · have d2 : decide (hi < v) = false := decide_eq_false h2
          have hz2 := hide (hz'.out ⟨by omega, by omega⟩)
          clear h1 h2 hbad
          go_wp2_with fail
          go_roundw
          case rel => exact ⟨q + 1, by omega, by go_num, hz2, O2⟩
          case measure => simp [intOf]; omega
    · obtain rfl : q = 9 := by omega
      have HR := hide (show rowsP J from hz.out)
      have OW := hide (OV.out.trans0 hO.out)
      have bJ := BJ.out.only hO.out (by simp)
      have BJ2 := hide bJ
      have z6 := bJ.cell 6
      have z7 := bJ.cell 7
      obtain ⟨bp, hbp⟩ : ∃ b, decide (0 ≤ fb (badG J.P) J.pn) = b := ⟨_, rfl⟩
      obtain ⟨bt, hbt⟩ : ∃ b, decide (0 ≤ fb (longG J.T) J.tn) = b := ⟨_, rfl⟩
      rw [hbp] at HP
      rw [hbt] at HT
      clear bJ
      cases bp with
      | true =>
        have hE := hide (jobE_prog (J := J) (of_decide_eq_true hbp))
        clear hbp hbt
        go_wp2_with (go_at_call 65; (with_reducible refine (HP.out _ OW.out).mono ?_); rintro e w1 ⟨rfl, o⟩; have O2 := hide (OW.out.trans0 o); clear o)
        go_ret
        exact ⟨by rw [hE.out]; rfl, O2.out⟩
      | false =>
        cases bt with
        | true =>
          have hE := hide (jobE_text (J := J) (of_decide_eq_true hbt))
          clear hbp hbt
          go_wp2_with (first
            | (go_at_call 65; (with_reducible refine (HP.out _ OW.out).mono ?_); rintro e w1 ⟨rfl, o⟩; have O2 := hide (OW.out.trans0 o); have z7 := (BJ2.out.only o (by simp)).cell 7; clear o)
            | (go_at_call 66; (with_reducible refine (HT.out _ O2.out).mono ?_); rintro e w2 ⟨rfl, o⟩; have O3 := hide (O2.out.trans0 o); clear o))
          go_ret
          exact ⟨by rw [hE.out]; rfl, O3.out⟩
        | false =>
          have hE := hide (jobE_ok HR.out (of_decide_eq_false hbp) (of_decide_eq_false hbt))
          clear hbp hbt
          go_wp2_with (first
            | (go_at_call 65; (with_reducible refine (HP.out _ OW.out).mono ?_); rintro e w1 ⟨rfl, o⟩; have O2 := hide (OW.out.trans0 o); have z7 := (BJ2.out.only o (by simp)).cell 7; clear o)
            | (go_at_call 66; (with_reducible refine (HT.out _ O2.out).mono ?_); rintro e w2 ⟨rfl, o⟩; have O3 := hide (O2.out.trans0 o); clear o))
          go_ret
          exact ⟨by rw [hE.out]; rfl, O3.out⟩
end Go.Proofs.YteblhklclcjonaaGreatDoor
