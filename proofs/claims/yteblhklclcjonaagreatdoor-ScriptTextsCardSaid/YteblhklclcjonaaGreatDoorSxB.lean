/- Script: Sx5 Sx6 Sx7 Sx8 So4 So5. No condition but what each theorem says. -/
import Derived.Test.YteblhklclcjonaaGreatDoorSpD
import Derived.Test.YteblhklclcjonaaGreatDoorStA
import Derived.BigRegion
import Derived.Test.YteblhklclcjonaaGreatDoorSxA
import Derived.Test.YteblhklclcjonaaGreatDoorSnM
import Derived.SizedLaws
namespace Go.Proofs.YteblhklclcjonaaGreatDoor
open Go.RowKit Go.BigFrame
set_option linter.unusedVariables false
set_option linter.all false
set_option maxRecDepth 100000

structure SmallJ (J : Jb) : Prop where
  len : J.pn + J.tn ≤ 9000
  prog : ∀ k, k < J.pn → (J.P k).n ≤ 9000
  text : ∀ k, k < J.tn → (J.T k).size ≤ 9000
def MuchA (p : Prop) (e : Ending) : Prop := ∃ b, e = .returned (.bool b) ∧ (b = false → p)
set_option maxHeartbeats 16000000 in
theorem muchjobx_any (J : Jb) (w : World) (hJ : JbAt w J) (hpt : J.pn + J.tn ≤ 9000000000000000000) : Calls Tryz.prog 37 #[.agg (jobV J), .int .i64 9000] w fun e w' => MuchA (SmallJ J) e ∧ Only [] w w' := by
  have hpn := hJ.2.2.1
  have htn := hJ.2.2.2
  unfold maxLen at hpn htn
  have HJ := hide hJ
  have O1 := hide ((Only.refl [] w).alloc (.cells (jobV J) 52))
  have B1 := hide (Blk.new w 52 (jobV J))
  unfold jobV at B1 O1
  unfold jobV
  obtain ⟨X, hX⟩ : ∃ X, w.heap.size = X := ⟨_, rfl⟩
  rw [hX] at B1
  have x0 := B1.out.cell 0; have x1 := B1.out.cell 1; have x2 := B1.out.cell 2; have x3 := B1.out.cell 3; have x4 := B1.out.cell 4; have x5 := B1.out.cell 5; have x6 := B1.out.cell 6; have x7 := B1.out.cell 7
  clear hJ
  go_enter Tryz.func37, Tryz.ntmps37
  go_wp2_with fail
  try simp only [hX]
  obtain ⟨V, hV⟩ : ∃ V, w.alloc (.cells #[.int .i64 J.t, .int .i64 J.o, .int .i64 J.s, .int .i64 J.q, .int .i64 J.m, .int .i64 J.p, .slice J.pA J.pn J.pc, .slice J.tA J.tn J.tc] 52) = V := ⟨_, rfl⟩
  rw [hV] at B1 O1 ⊢
  clear hV hX x0 x1 x2 x3 x4 x5 x6 x7
  go_loopw [5, 6] (fun v5 v6 wr => ∃ (u : Int) (q : Nat), q ≤ J.pn ∧ ((J.pn : Int) + J.tn ≤ u) ∧ u ≤ 9000000000000009001 ∧ v5 = .int .i64 u ∧ v6 = .int .i64 q ∧ Hid (u ≤ 9000 → ∀ k, k < q → (J.P k).n ≤ 9000) ∧ Hid (Only [] V wr)) (fun _ v6 _ => J.pn - (intOf v6).toNat)
  case atStart => exact ⟨_, 0, by omega, by omega, by omega, rfl, rfl, hide (fun _ k hk => by omega), hide (Only.refl _ _)⟩
  case round =>
    obtain ⟨u, q, hq, hu0, hu1, rfl, rfl, hV, hO⟩ := hrel
    have x6 := (B1.out.only hO.out (by simp)).cell 6
    by_cases hqn : q < J.pn
    · have j0 : (0 : Int) ≤ (q : Int) := by omega
      have j1 : (q : Int) < (J.pn : Int) := by omega
      by_cases hu : u ≤ 9000
      · have d1 : decide (u ≤ 9000) = true := decide_eq_true hu
        obtain ⟨a, hpa, e0, e1, e2⟩ := HJ.out.1 q hqn
        have c0 := (O1.out.trans0 hO.out).keep0 e0
        rw [hpa] at x6
        obtain ⟨ln, hln⟩ : ∃ t, (J.P q).n = t := ⟨_, rfl⟩
        have HLN := hide hln
        rw [hln] at c0 e1
        unfold maxLen at e1
        clear e0 e2 hln
        by_cases hm : ln ≤ 9001
        · have hm1 : (ln : Int) ≤ 9001 := by omega
          have hm2 : decide ((ln : Int) ≤ 9001) = true := decide_eq_true hm1
          go_wp2_with fail
          go_roundw
          case rel => exact ⟨_, q + 1, by omega, by omega, by omega, rfl, by go_num, hide (fun h k hk => by
            rcases (by omega : k < q ∨ k = q) with h2 | h2
            · exact hV.out (by omega) k h2
            · subst h2; rw [HLN.out]; omega), hO⟩
          case measure => simp [intOf]; omega
        · have hm1 : ¬ (ln : Int) ≤ 9001 := by omega
          have hm2 : decide ((ln : Int) ≤ 9001) = false := decide_eq_false hm1
          go_wp2_with fail
          go_roundw
          case rel => exact ⟨_, q + 1, by omega, by omega, by omega, rfl, by go_num, hide (fun h k hk => by
            rcases (by omega : k < q ∨ k = q) with h2 | h2
            · exact hV.out (by omega) k h2
            · subst h2; rw [HLN.out]; omega), hO⟩
          case measure => simp [intOf]; omega
      · have d1 : decide (u ≤ 9000) = false := decide_eq_false hu
        have OW := hO
        have HV2 := hide (show u ≤ 9000 → (∀ k, k < J.pn → (J.P k).n ≤ 9000) ∧ ∀ k, k < 0 → (J.T k).size ≤ 9000 from fun h => absurd h hu)
        go_wp2_with fail
        clear x6 d1 hu j0 j1 hqn hq hO
        go_loopw [5, 7] (fun v5 v7 wr => ∃ (u : Int) (q : Nat), q ≤ J.tn ∧ ((J.pn : Int) + J.tn ≤ u) ∧ u ≤ 9000000000000009001 ∧ v5 = .int .i64 u ∧ v7 = .int .i64 q ∧ Hid (u ≤ 9000 → (∀ k, k < J.pn → (J.P k).n ≤ 9000) ∧ ∀ k, k < q → (J.T k).size ≤ 9000) ∧ Hid (Only [] V wr)) (fun _ v7 _ => J.tn - (intOf v7).toNat)
        case atStart => exact ⟨u, 0, by omega, hu0, hu1, rfl, rfl, HV2, OW⟩
        case round =>
          clear hu0 hu1 OW
          obtain ⟨u, q, hq, hu0, hu1, rfl, rfl, hV, hO⟩ := hrel
          have x7 := (B1.out.only hO.out (by simp)).cell 7
          by_cases hqn : q < J.tn
          · have j0 : (0 : Int) ≤ (q : Int) := by omega
            have j1 : (q : Int) < (J.tn : Int) := by omega
            by_cases hu : u ≤ 9000
            · have d1 : decide (u ≤ 9000) = true := decide_eq_true hu
              obtain ⟨a, hpa, e0⟩ := HJ.out.2.1 q hqn
              have c0 := (O1.out.trans0 hO.out).keep0 e0
              rw [hpa] at x7
              obtain ⟨t, ht⟩ : ∃ t, J.T q = t := ⟨_, rfl⟩
              have HTT := hide ht
              rw [ht] at c0
              clear e0 ht
              by_cases hm : t.size ≤ 9001
              · have hm1 : (t.size : Int) ≤ 9001 := by omega
                have hm2 : decide ((t.size : Int) ≤ 9001) = true := decide_eq_true hm1
                go_wp2_with fail
                go_roundw
                case rel => exact ⟨_, q + 1, by omega, by omega, by omega, rfl, by go_num, hide (fun h => ⟨(hV.out (by omega)).1, fun k hk => (by
                      rcases (by omega : k < q ∨ k = q) with h2 | h2
                      · exact (hV.out (by omega)).2 k h2
                      · subst h2; rw [HTT.out]; omega)⟩), hO⟩
                case measure => simp [intOf]; omega
              · have hm1 : ¬ (t.size : Int) ≤ 9001 := by omega
                have hm2 : decide ((t.size : Int) ≤ 9001) = false := decide_eq_false hm1
                go_wp2_with fail
                go_roundw
                case rel => exact ⟨_, q + 1, by omega, by omega, by omega, rfl, by go_num, hide (fun h => ⟨(hV.out (by omega)).1, fun k hk => (by
                      rcases (by omega : k < q ∨ k = q) with h2 | h2
                      · exact (hV.out (by omega)).2 k h2
                      · subst h2; rw [HTT.out]; omega)⟩), hO⟩
                case measure => simp [intOf]; omega
            · have d1 : decide (u ≤ 9000) = false := decide_eq_false hu
              go_wp2_with fail
              go_ret
              exact ⟨⟨_, rfl, fun h => absurd h (by decide)⟩, O1.out.trans0 hO.out⟩
          · obtain rfl : q = J.tn := by omega
            go_wp2_with fail
            go_ret
            exact ⟨⟨_, rfl, fun h => (by have h9 := of_decide_eq_false h; exact ⟨by omega, (hV.out (by omega)).1, (hV.out (by omega)).2⟩)⟩, O1.out.trans0 hO.out⟩
    · obtain rfl : q = J.pn := by omega
      have OW := hO
      have HV2 := hide (show u ≤ 9000 → (∀ k, k < J.pn → (J.P k).n ≤ 9000) ∧ ∀ k, k < 0 → (J.T k).size ≤ 9000 from fun h => ⟨hV.out h, fun k hk => by omega⟩)
      go_wp2_with fail
      clear x6 hqn hq hO
      go_loopw [5, 7] (fun v5 v7 wr => ∃ (u : Int) (q : Nat), q ≤ J.tn ∧ ((J.pn : Int) + J.tn ≤ u) ∧ u ≤ 9000000000000009001 ∧ v5 = .int .i64 u ∧ v7 = .int .i64 q ∧ Hid (u ≤ 9000 → (∀ k, k < J.pn → (J.P k).n ≤ 9000) ∧ ∀ k, k < q → (J.T k).size ≤ 9000) ∧ Hid (Only [] V wr)) (fun _ v7 _ => J.tn - (intOf v7).toNat)
      case atStart => exact ⟨u, 0, by omega, hu0, hu1, rfl, rfl, HV2, OW⟩
      case round =>
        clear hu0 hu1 OW
        obtain ⟨u, q, hq, hu0, hu1, rfl, rfl, hV, hO⟩ := hrel
        have x7 := (B1.out.only hO.out (by simp)).cell 7
        by_cases hqn : q < J.tn
        · have j0 : (0 : Int) ≤ (q : Int) := by omega
          have j1 : (q : Int) < (J.tn : Int) := by omega
          by_cases hu : u ≤ 9000
          · have d1 : decide (u ≤ 9000) = true := decide_eq_true hu
            obtain ⟨a, hpa, e0⟩ := HJ.out.2.1 q hqn
            have c0 := (O1.out.trans0 hO.out).keep0 e0
            rw [hpa] at x7
            obtain ⟨t, ht⟩ : ∃ t, J.T q = t := ⟨_, rfl⟩
            have HTT := hide ht
            rw [ht] at c0
            clear e0 ht
            by_cases hm : t.size ≤ 9001
            · have hm1 : (t.size : Int) ≤ 9001 := by omega
              have hm2 : decide ((t.size : Int) ≤ 9001) = true := decide_eq_true hm1
              go_wp2_with fail
              go_roundw
              case rel => exact ⟨_, q + 1, by omega, by omega, by omega, rfl, by go_num, hide (fun h => ⟨(hV.out (by omega)).1, fun k hk => (by
                      rcases (by omega : k < q ∨ k = q) with h2 | h2
                      · exact (hV.out (by omega)).2 k h2
                      · subst h2; rw [HTT.out]; omega)⟩), hO⟩
              case measure => simp [intOf]; omega
            · have hm1 : ¬ (t.size : Int) ≤ 9001 := by omega
              have hm2 : decide ((t.size : Int) ≤ 9001) = false := decide_eq_false hm1
              go_wp2_with fail
              go_roundw
              case rel => exact ⟨_, q + 1, by omega, by omega, by omega, rfl, by go_num, hide (fun h => ⟨(hV.out (by omega)).1, fun k hk => (by
                      rcases (by omega : k < q ∨ k = q) with h2 | h2
                      · exact (hV.out (by omega)).2 k h2
                      · subst h2; rw [HTT.out]; omega)⟩), hO⟩
              case measure => simp [intOf]; omega
          · have d1 : decide (u ≤ 9000) = false := decide_eq_false hu
            go_wp2_with fail
            go_ret
            exact ⟨⟨_, rfl, fun h => absurd h (by decide)⟩, O1.out.trans0 hO.out⟩
        · obtain rfl : q = J.tn := by omega
          go_wp2_with fail
          go_ret
          exact ⟨⟨_, rfl, fun h => (by have h9 := of_decide_eq_false h; exact ⟨by omega, (hV.out (by omega)).1, (hV.out (by omega)).2⟩)⟩, O1.out.trans0 hO.out⟩
theorem muchx_any (J : Jb) (A : Option Addr) (n c : Nat) (w : World) (hJ : JbAt w J) (hpt : J.pn + J.tn ≤ 9000000000000000000) : Calls Tryz.prog 20 #[.agg (sc9 J A n c), .int .i64 9000] w fun e w' => MuchA (SmallJ J ∧ n ≤ 9000) e ∧ Only [] w w' := by
  have O1 := hide ((Only.refl [] w).alloc (.cells (sc9 J A n c) 54))
  have B1 := hide (Blk.new w 54 (sc9 J A n c))
  have MJ := hide (fun W (o : Only [] w W) => muchjobx_any J W (jb_only0 hJ o) hpt)
  unfold sc9 at B1 O1
  unfold jobV at MJ
  unfold sc9
  have x0 := B1.out.cell 0; have x1 := B1.out.cell 1; have x2 := B1.out.cell 2; have x3 := B1.out.cell 3; have x4 := B1.out.cell 4; have x5 := B1.out.cell 5; have x6 := B1.out.cell 6; have x7 := B1.out.cell 7; have x8 := B1.out.cell 8
  clear hJ
  go_enter Tryz.func20, Tryz.ntmps20
  go_wp2_with (go_at_call 37; (with_reducible refine (MJ.out _ O1.out).mono ?_); rintro e w1 ⟨⟨b, rfl, hb⟩, o⟩; have O3 := hide (O1.out.trans0 o); have y8 := (B1.out.only o (by simp)).cell 8; have HB := hide hb; clear hb; cases b; clear o)
  all_goals go_wp2_with fail
  all_goals go_ret
  · exact ⟨⟨_, rfl, fun h => ⟨HB.out trivial, by have h9 := of_decide_eq_false h; omega⟩⟩, O3.out⟩
  · exact ⟨⟨_, rfl, fun h => by cases h⟩, O3.out⟩
end Go.Proofs.YteblhklclcjonaaGreatDoor
namespace Go.Proofs.YteblhklclcjonaaGreatDoor
open Go.RowKit
set_option linter.unusedVariables false
set_option linter.all false
set_option maxRecDepth 20000

theorem app_copy (W : World) (t e : TypeId) (i : TypeInfo) (z : Value) (size bytes : Nat) (ht : Tryz.prog.underlying t = some (.slice e)) (hi : Tryz.prog.info? e = some i) (hz : i.zero = some z) (hsize : i.size = size) (hby : i.bytes = bytes) (hzs : z.cells.size = size) (hsz : 0 < size)
    (A : Option Addr) (n c : Nat) (news : List Value) (hl : news.length = n * size) (hc : 0 < n → ∃ a, A = some a ∧ ∀ j u, news[j]? = some u → W.cell? (a.add j) = some u) (h1 : ∀ u ∈ news, u.oneCell' = true) (h63 : n ≤ maxLen) (hb : n * bytes ≤ 140737488355328) :
    ∃ A' c' w2, (AppH #[t, t] t #[.slice none 0 0, .slice A n c]).run Tryz.prog W = .ok (.slice A' n c') w2 ∧ w2.ownsRow W.heap.size e size (.slice A' n c') n news ∧ Only [] W w2 := by
  by_cases hn : n = 0
  · subst hn
    have hnil : news = [] := List.length_eq_zero_iff.1 (by rw [hl, Nat.zero_mul])
    subst hnil
    refine ⟨none, 0, W, ?_, World.ownsRow_nil .., Only.refl _ _⟩
    rw [← app_hide]
    cases A <;> simp [Builtin.append_, run_underlying ht, sizeOf, typeInfo, hi, Builtin.lenOf, Builtin.firstCells, storeCells, loadCells, loadCellsFrom]
  · obtain ⟨a, rfl, hcell⟩ := hc (by omega)
    obtain ⟨v', w2, hrun, hown, hg, hnil, hbk⟩ := run_append_own_at (P := Tryz.prog) W W.heap.size t t e i z size bytes ht hi hz hsize hby hzs hsz (.slice none 0 0) 0 [] (World.ownsRow_nil ..) a n c news hl hcell h1 (by omega) (by rw [Nat.zero_add]; exact hb) (Nat.le_refl _)
    rw [Nat.zero_add, List.nil_append] at hown
    obtain ⟨A', c', rfl⟩ : ∃ A' c', v' = .slice A' n c' := by
      rcases hown.2 with ⟨hv, h0⟩ | ⟨g, cap, cur, hv, _⟩
      · exact ⟨none, 0, by rw [hv, h0]⟩
      · exact ⟨_, _, hv⟩
    exact ⟨A', c', w2, by rw [← app_hide]; exact hrun, hown, (Only.refl [] W).grown hg (fun k hk => by simp [Value.ownBlock] at hk)⟩
theorem spot_of {w : World} {a : Addr} {v : Value} (h : w.cell? (a.add 0) = some v) : ∃ b o, a = ⟨b, o, none⟩ := by
  obtain ⟨b, o, s⟩ := a
  cases s with
  | none => exact ⟨b, o, rfl⟩
  | some s =>
    have := World.cell?_spot h
    simp [Addr.add] at this
theorem oneI (p : List Ins) : ∀ u ∈ GI p, u.oneCell' = true := by
  intro u hu
  unfold GI at hu
  obtain ⟨i, -, hi⟩ := List.mem_flatMap.1 hu
  simp [insV] at hi
  rcases hi with rfl | rfl | rfl | rfl | rfl <;> rfl
theorem oneE (l : List Ev) : ∀ u ∈ EvV l, u.oneCell' = true := by
  intro u hu
  unfold EvV at hu
  obtain ⟨e, -, hi⟩ := List.mem_flatMap.1 hu
  simp at hi
  rcases hi with rfl | rfl <;> rfl
theorem insL_get {n : Nat} {f : Nat → Ins} {k : Nat} (hk : k < n) : (insL n f)[k]? = some (f k) := by
  unfold insL
  rw [List.getElem?_map, List.getElem?_range hk]
  rfl
theorem ins_src {w : World} {A : Option Addr} {n : Nat} {f : Nat → Ins} (h : InsAt w A n f) (hn : 0 < n) : ∃ a, A = some a ∧ ∀ j u, (GI (insL n f))[j]? = some u → w.cell? (a.add j) = some u := by
  obtain ⟨a, hA, h0, -⟩ := h 0 hn
  obtain ⟨b, o, rfl⟩ := spot_of h0
  refine ⟨_, hA, fun j u hj => ?_⟩
  have hlt := (List.getElem?_eq_some_iff.1 hj).1
  rw [GI_len, insL_len] at hlt
  obtain ⟨k, r, hk, hr, rfl⟩ : ∃ k r, k < n ∧ r < 5 ∧ j = k * 5 + r := ⟨j / 5, j % 5, by omega, by omega, by omega⟩
  obtain ⟨a2, hA2, g0, g1, g2, g3, g4⟩ := h k hk
  rw [hA] at hA2
  obtain rfl := (Option.some.inj hA2).symm
  obtain ⟨e0, e1, e2, e3, e4⟩ := GI_get (insL_get (f := f) hk)
  simp only [add_mk] at g0 g1 g2 g3 g4 ⊢
  rcases (by omega : r = 0 ∨ r = 1 ∨ r = 2 ∨ r = 3 ∨ r = 4) with h | h | h | h | h <;> subst h
  · rw [Nat.add_zero] at hj ⊢; rw [e0] at hj; rw [← hj]; exact g0
  · rw [e1] at hj; rw [← hj]; exact g1
  · rw [e2] at hj; rw [← hj]; exact g2
  · rw [e3] at hj; rw [← hj]; exact g3
  · rw [e4] at hj; rw [← hj]; exact g4
theorem ev_src {w : World} {A : Option Addr} {n : Nat} {f : Nat → Ev} (h : EvAt w A n f) (hn : 0 < n) : ∃ a, A = some a ∧ ∀ j u, (EvV (evL n f))[j]? = some u → w.cell? (a.add j) = some u := by
  obtain ⟨a, hA, h0, -⟩ := h 0 hn
  obtain ⟨b, o, rfl⟩ := spot_of h0
  refine ⟨_, hA, fun j u hj => ?_⟩
  have hlt := (List.getElem?_eq_some_iff.1 hj).1
  rw [EvV_len, evL_len] at hlt
  obtain ⟨k, r, hk, hr, rfl⟩ : ∃ k r, k < n ∧ r < 2 ∧ j = k * 2 + r := ⟨j / 2, j % 2, by omega, by omega, by omega⟩
  obtain ⟨a2, hA2, g0, g1⟩ := h k hk
  rw [hA] at hA2
  obtain rfl := (Option.some.inj hA2).symm
  obtain ⟨e0, e1⟩ := EvV_get (evL_get (f := f) hk)
  simp only [add_mk] at g0 g1 ⊢
  rcases (by omega : r = 0 ∨ r = 1) with h | h <;> subst h
  · rw [Nat.add_zero] at hj ⊢; rw [e0] at hj; rw [← hj]; exact g0
  · rw [e1] at hj; rw [← hj]; exact g1
def TsV (n : Nat) (T : Nat → ByteArray) : List Value := (List.range n).map fun k => .string (T k)
theorem tx_src {w : World} {A : Option Addr} {n : Nat} {T : Nat → ByteArray} (h : TxsAt w A n T) (hn : 0 < n) : ∃ a, A = some a ∧ ∀ j u, (TsV n T)[j]? = some u → w.cell? (a.add j) = some u := by
  obtain ⟨a, hA, h0⟩ := h 0 hn
  refine ⟨_, hA, fun j u hj => ?_⟩
  have hlt := (List.getElem?_eq_some_iff.1 hj).1
  simp only [TsV, List.length_map, List.length_range] at hlt
  obtain ⟨a2, hA2, g0⟩ := h j hlt
  rw [hA] at hA2
  obtain rfl := (Option.some.inj hA2).symm
  unfold TsV at hj
  rw [List.getElem?_map, List.getElem?_range hlt] at hj
  rw [g0]
  exact hj
/-- Rows that are copied read as they did. -/
theorem own_ins {w : World} {B : Nat} {A : Option Addr} {c n : Nat} {f : Nat → Ins} (h : w.ownsRow B 99 5 (.slice A n c) n (GI (insL n f))) : InsAt w A n f := by
  have hI : Is w B A c (insL n f) := by unfold Is; rw [insL_len]; exact h
  have h2 := hI.at_
  rw [insL_len] at h2
  intro k hk
  obtain ⟨a, h0, h1⟩ := h2 k hk
  have e : insF (insL n f) k = f k := by unfold insF; rw [List.getD_eq_getElem?_getD, insL_get hk]; rfl
  rw [e] at h1
  exact ⟨a, h0, h1⟩
theorem own_evs {w : World} {B : Nat} {A : Option Addr} {c n : Nat} {f : Nat → Ev} (h : w.ownsRow B 24 2 (.slice A n c) n (EvV (evL n f))) : EvAt w A n f := by
  have hI : Es w B A c (evL n f) := by unfold Es; rw [evL_len]; exact h
  have h2 := hI.at_
  rw [evL_len] at h2
  intro k hk
  obtain ⟨a, h0, h1⟩ := h2 k hk
  have e : evF (evL n f) k = f k := by unfold evF; rw [List.getD_eq_getElem?_getD, evL_get hk]; rfl
  rw [e] at h1
  exact ⟨a, h0, h1⟩
theorem own_txs {w : World} {B : Nat} {A : Option Addr} {c n : Nat} {T : Nat → ByteArray} (h : w.ownsRow B 9 1 (.slice A n c) n (TsV n T)) : TxsAt w A n T := by
  intro k hk
  obtain ⟨g, rfl, h1, _⟩ := own_cell h (by omega)
  refine ⟨⟨g, 0, none⟩, rfl, ?_⟩
  rw [add_mk, Nat.zero_add, h1 k (by omega)]
  unfold TsV
  rw [List.getElem?_map, List.getElem?_range hk]
  rfl
/-! ## The programs' row -/
def PvV (P : Nat → Pg) (vs : Nat → Option Addr × Nat) (q : Nat) : List Value := (List.range q).map fun k => .slice (vs k).1 (P k).n (vs k).2
/-- Programs copied so far. -/
structure Cp (w : World) (B : Nat) (A : Option Addr) (c : Nat) (P : Nat → Pg) (vs : Nat → Option Addr × Nat) (q : Nat) : Prop where
  row : w.ownsRow B 67 1 (.slice A q c) q (PvV P vs q)
  each : ∀ k, k < q → w.ownsRow B 99 5 (.slice (vs k).1 (P k).n (vs k).2) (P k).n (GI (insL (P k).n (P k).f))
theorem Cp.keep {w w' : World} {B : Nat} {A : Option Addr} {c : Nat} {P : Nat → Pg} {vs : Nat → Option Addr × Nat} {q : Nat} {S : List Nat} (h : Cp w B A c P vs q) (o : Only S w w') (hS : ∀ k ∈ S, ∃ t cs, Blk w k t cs ∧ t ≠ 67 ∧ t ≠ 99) : Cp w' B A c P vs q :=
  ⟨own_only' h.row o (fun k hk hs => by
    obtain ⟨t, cs, h1, h2, h3⟩ := hS k hs
    obtain ⟨cs', h4⟩ := own_ty h.row k hk
    exact Blk.ne_ h4 h1 (fun e => h2 e.symm) rfl), fun j hj => own_only' (h.each j hj) o (fun k hk hs => by
    obtain ⟨t, cs, h1, h2, h3⟩ := hS k hs
    obtain ⟨cs', h4⟩ := own_ty (h.each j hj) k hk
    exact Blk.ne_ h4 h1 (fun e => h3 e.symm) rfl)⟩
theorem Cp.only0 {w w' : World} {B : Nat} {A : Option Addr} {c : Nat} {P : Nat → Pg} {vs : Nat → Option Addr × Nat} {q : Nat} (h : Cp w B A c P vs q) (o : Only [] w w') : Cp w' B A c P vs q := h.keep o (fun k hk => by cases hk)
theorem Cp.nil (w : World) (B : Nat) (P : Nat → Pg) (vs : Nat → Option Addr × Nat) : Cp w B none 0 P vs 0 := ⟨World.ownsRow_nil .., fun k hk => by omega⟩
def upV (vs : Nat → Option Addr × Nat) (q : Nat) (v : Option Addr × Nat) : Nat → Option Addr × Nat := fun k => if k = q then v else vs k
theorem app_prog (W : World) (B : Nat) (A : Option Addr) (c : Nat) (P : Nat → Pg) (vs : Nat → Option Addr × Nat) (q : Nat) (A' : Option Addr) (c' : Nat) (h : Cp W B A c P vs q) (hn : W.ownsRow B 99 5 (.slice A' (P q).n c') (P q).n (GI (insL (P q).n (P q).f))) (hl : q ≤ 1000000) (hB : B ≤ W.heap.size) :
    ∃ g d w2, (AppH #[49, 49] 49 #[.slice A q c, .slice (some ⟨W.heap.size, 0, none⟩) 1 1]).run Tryz.prog (W.alloc (.cells #[.slice A' (P q).n c'] 67)) = .ok (.slice (some ⟨g, 0, none⟩) (q + 1) d) w2 ∧
      Cp w2 B (some ⟨g, 0, none⟩) d P (upV vs q (A', c')) (q + 1) ∧ Only (blkOf A) W w2 := by
  obtain ⟨i0, hi, hz0, hz1, hz2⟩ := info_parts info67
  have oa := (Only.refl [] W).alloc (.cells #[.slice A' (P q).n c'] 67)
  obtain ⟨g', cap', w2, hrun, hown, ho, hgg⟩ := append_at (P := Tryz.prog) (W.alloc (.cells #[.slice A' (P q).n c'] 67)) B 49 49 67 i0 (.slice none 0 0) 1 24 Tryz.underlying49 hi hz0 hz1 hz2 rfl (by omega) A q c (PvV P vs q) (own_only' h.row oa (by simp))
    ⟨W.heap.size, 0, none⟩ 1 1 [.slice A' (P q).n c'] rfl (fun j u hj => by
      have := (Blk.new W 67 #[.slice A' (P q).n c']).cell j
      rw [add_mk, Nat.zero_add, this]
      rw [← Array.getElem?_toList]
      exact hj) (by intro u hu; simp at hu; subst hu; rfl) (.inl (by omega)) (by unfold maxLen; omega) (by omega) (by simp; omega)
  rw [app_hide] at hrun
  have oo : Only (blkOf A) W w2 := ((Only.refl (blkOf A) W).alloc _).trans' ho
  have hrow : PvV P (upV vs q (A', c')) (q + 1) = PvV P vs q ++ [.slice A' (P q).n c'] := by
    unfold PvV
    rw [List.range_succ, List.map_append]
    congr 1
    · refine List.map_congr_left (fun k hk => ?_)
      rw [List.mem_range] at hk
      unfold upV
      rw [if_neg (by omega)]
    · simp [upV]
  have far : ∀ {A2 : Option Addr} {c2 m : Nat} {xs : List Value}, W.ownsRow B 99 5 (.slice A2 m c2) m xs → w2.ownsRow B 99 5 (.slice A2 m c2) m xs := fun {A2 c2 m xs} hx => own_only' hx oo (fun k hk hs => by
    obtain ⟨cs, h1⟩ := own_ty hx k hk
    obtain ⟨cs', h2⟩ := own_ty h.row k hs
    exact Blk.ne_ h1 h2 (by decide) rfl)
  refine ⟨g', cap', w2, hrun, ⟨by rw [hrow]; exact hown, fun k hk => ?_⟩, oo⟩
  unfold upV
  by_cases hkq : k = q
  · subst hkq
    rw [if_pos rfl]
    exact far hn
  · rw [if_neg hkq]
    exact far (h.each k (by omega))
theorem Cp.at_ {w : World} {B : Nat} {A : Option Addr} {c : Nat} {P : Nat → Pg} {vs : Nat → Option Addr × Nat} {q : Nat} (h : Cp w B A c P vs q) (hm : ∀ k, k < q → (P k).n ≤ maxLen) : PgsAt w A q (fun k => ⟨(vs k).1, (P k).n, (vs k).2, (P k).f⟩) := by
  intro k hk
  obtain ⟨g, rfl, h1, _⟩ := own_cell h.row (by omega)
  refine ⟨⟨g, 0, none⟩, rfl, ?_, hm k hk, own_ins (h.each k hk)⟩
  rw [add_mk, Nat.zero_add, h1 k (by omega)]
  unfold PvV
  rw [List.getElem?_map, List.getElem?_range hk]
  rfl
/-- A job whose lists are others that read alike. -/
def cpJ (J : Jb) (A : Option Addr) (c : Nat) (vs : Nat → Option Addr × Nat) (TA : Option Addr) (tc : Nat) : Jb := { J with pA := A, pc := c, P := fun k => ⟨(vs k).1, (J.P k).n, (vs k).2, (J.P k).f⟩, tA := TA, tc := tc }
theorem v9_cp (J : Jb) (A : Option Addr) (c : Nat) (vs : Nat → Option Addr × Nat) (TA : Option Addr) (tc : Nat) : v9 (cpJ J A c vs TA tc) = v9 J := by
  funext q
  unfold v9 cpJ
  split <;> rfl
theorem jobE_cp (J : Jb) (A : Option Addr) (c : Nat) (vs : Nat → Option Addr × Nat) (TA : Option Addr) (tc : Nat) : jobE (cpJ J A c vs TA tc) = jobE J := by
  unfold jobE rowsP
  rw [v9_cp]
  rfl
theorem chkE_cp (J : Jb) (A : Option Addr) (c : Nat) (vs : Nat → Option Addr × Nat) (TA : Option Addr) (tc : Nat) (n : Nat) (f : Nat → Ev) : chkE (cpJ J A c vs TA tc) n f = chkE J n f := by
  unfold chkE
  rw [jobE_cp]
theorem jobT_cp (J : Jb) (A : Option Addr) (c : Nat) (vs : Nat → Option Addr × Nat) (TA : Option Addr) (tc : Nat) : jobT (cpJ J A c vs TA tc) = jobT J := by
  rw [jobT_B, jobT_B, v9_cp]
  rfl
theorem scrT_cp (J : Jb) (A : Option Addr) (c : Nat) (vs : Nat → Option Addr × Nat) (TA : Option Addr) (tc : Nat) (n : Nat) (f : Nat → Ev) : scrT (cpJ J A c vs TA tc) n f = scrT J n f := by
  unfold scrT
  rw [jobT_cp]
theorem imm_cp {J : Jb} (h : ImmOk J) (A : Option Addr) (c : Nat) (vs : Nat → Option Addr × Nat) (TA : Option Addr) (tc : Nat) : ImmOk (cpJ J A c vs TA tc) := h
theorem rsB_cp (J : Jb) (A : Option Addr) (c : Nat) (vs : Nat → Option Addr × Nat) (TA : Option Addr) (tc : Nat) (n : Nat) (f : Nat → Ev) : rsB (cpJ J A c vs TA tc) n f J n f = true := by
  rw [rsB_iff]
  exact ⟨fun q _ => by rw [v9_cp], rfl, rfl, rfl⟩
end Go.Proofs.YteblhklclcjonaaGreatDoor
namespace Go.Proofs.YteblhklclcjonaaGreatDoor
open Go.RowKit
set_option linter.unusedVariables false
set_option linter.all false
set_option maxRecDepth 100000
attribute [local go_sem ↓] app_hide

def o9 (J : Jb) (p t e : Value) : Array Value := #[.int .i64 J.t, .int .i64 J.o, .int .i64 J.s, .int .i64 J.q, .int .i64 J.m, .int .i64 J.p, p, t, e]
/-- What Copy's walk keeps. -/
structure CpI (J : Jb) (A : Option Addr) (n c : Nat) (w W : World) (X q : Nat) (PA : Option Addr) (pc : Nat) (vs : Nat → Option Addr × Nat) (TA : Option Addr) (tc : Nat) : Prop where
  bx : Blk W X 54 (o9 J (.slice J.pA J.pn J.pc) (.slice J.tA J.tn J.tc) (.slice A n c))
  bz : Blk W (X + 1) 54 z9
  bo : Blk W (X + 2) 54 (o9 J (.slice PA q pc) (.slice TA J.tn tc) (.slice A n c))
  tx : W.ownsRow (X + 3) 9 1 (.slice TA J.tn tc) J.tn (TsV J.tn J.T)
  cp : Cp W (X + 3) PA pc J.P vs q
  o : Only [] w W
  x : w.heap.size = X
  s : X + 3 ≤ W.heap.size
set_option maxHeartbeats 16000000 in
theorem copy_any (J : Jb) (A : Option Addr) (n c : Nat) (f : Nat → Ev) (w : World) (hJ : JbAt w J) (hE : EvAt w A n f) (hpn : J.pn ≤ 9000) (htn : J.tn ≤ 9000) (hn : n ≤ 9000) (hp : ∀ k, k < J.pn → (J.P k).n ≤ 9000) :
    Calls Tryz.prog 21 #[.agg (sc9 J A n c)] w fun e w' => (∃ PA pc vs TA tc EA ec, e = .returned (.agg (sc9 (cpJ J PA pc vs TA tc) EA n ec)) ∧ JbAt w' (cpJ J PA pc vs TA tc) ∧ EvAt w' EA n f ∧ EvLt EA w'.heap.size) ∧ Only [] w w' := by
  obtain ⟨i9, hi9, hz90, hz91, hz92⟩ := info_parts info9
  obtain ⟨i24, hi24, hz240, hz241, hz242⟩ := info_parts info24e
  obtain ⟨i99, hi99, hz990, hz991, hz992⟩ := info_parts info24b
  have HJ := hide hJ
  have HE := hide hE
  have HP := hide hp
  obtain ⟨X, hX⟩ : ∃ X, w.heap.size = X := ⟨_, rfl⟩
  have oV := (((Only.refl [] w).alloc (.cells (sc9 J A n c) 54)).alloc (.cells z9 54)).alloc (.cells (sc9 J A n c) 54)
  have bx := ((Blk.new w 54 (sc9 J A n c)).alloc (.cells z9 54)).alloc (.cells (sc9 J A n c) 54)
  have bz := (Blk.new (w.alloc (.cells (sc9 J A n c) 54)) 54 z9).alloc (.cells (sc9 J A n c) 54)
  have bo := Blk.new ((w.alloc (.cells (sc9 J A n c) 54)).alloc (.cells z9 54)) 54 (sc9 J A n c)
  have hsV : (((w.alloc (.cells (sc9 J A n c) 54)).alloc (.cells z9 54)).alloc (.cells (sc9 J A n c) 54)).heap.size = X + 3 := by simp [hX]
  have x0 := (Blk.new w 54 (sc9 J A n c)).alloc (.cells z9 54)
  simp only [World.size_alloc, hX] at bx bz bo x0
  obtain ⟨TA, tc, w2, hrunT, hT, oT⟩ := app_copy (((w.alloc (.cells (sc9 J A n c) 54)).alloc (.cells z9 54)).alloc (.cells (sc9 J A n c) 54)) 50 9 i9 (.string ⟨#[]⟩) 1 16 Tryz.underlying50 hi9 hz90 hz91 hz92 rfl (by omega) J.tA J.tn J.tc (TsV J.tn J.T) (by simp [TsV]) (fun h => tx_src (hJ.2.1.only0 oV) h) (by intro u hu; simp [TsV] at hu; obtain ⟨k, -, rfl⟩ := hu; rfl) (by unfold maxLen; omega) (by omega)
  rw [hsV] at hT
  have y0 := x0.cell 0; have y1 := x0.cell 1; have y2 := x0.cell 2; have y3 := x0.cell 3; have y4 := x0.cell 4; have y5 := x0.cell 5; have y6 := x0.cell 6; have y7 := x0.cell 7; have y8 := x0.cell 8
  have x7 := bx.cell 7
  have bo2 := bo.only oT (by simp)
  have d6 := bo2.cell 6
  have d7 := bo2.cell 7
  have f6 := bo2.frozen 6
  have f7 := bo2.frozen 7
  have o3 : Only [X + 2] w2 ((w2.setCell ⟨X + 2, 6, none⟩ (.slice none 0 0)).setCell ⟨X + 2, 7, none⟩ (.slice TA J.tn tc)) := ((Only.refl [X + 2] w2).setCell (p := ⟨X + 2, 6, none⟩) (.inl (by simp)) _).setCell (p := ⟨X + 2, 7, none⟩) (.inl (by simp)) _
  have LK := hide (show CpI J A n c w ((w2.setCell ⟨X + 2, 6, none⟩ (.slice none 0 0)).setCell ⟨X + 2, 7, none⟩ (.slice TA J.tn tc)) X 0 none 0 (fun _ => (none, 0)) TA tc from
    ⟨(bx.only oT (by simp)).only o3 (by simp), (bz.only oT (by simp)).only o3 (by simp), (bo2.set_ 6 _).set_ 7 _, own_only' hT o3 (fun k hk => by have := (own_ge hT k hk).1; simp; omega), Cp.nil _ _ _ _, (oV.trans0 oT).trans o3 (fun k hk => .inr (by simp at hk; omega)), hX, by have := oT.size; simp; omega⟩)
  unfold sc9 at y0 y1 y2 y3 y4 y5 y6 y7 y8 x7 d6 d7 hrunT
  unfold z9 at y0 y1 y2 y3 y4 y5 y6 y7 y8 x7 hrunT
  clear hJ hE hp oV bx bz bo hsV x0 hT oT bo2 o3
  unfold sc9
  go_enter Tryz.func21, Tryz.ntmps21
  go_wp2_with fail
  obtain ⟨V, hV⟩ : ∃ V, (w2.setCell ⟨X + 2, 6, none⟩ (.slice none 0 0)).setCell ⟨X + 2, 7, none⟩ (.slice TA J.tn tc) = V := ⟨_, rfl⟩
  rw [hV] at LK ⊢
  clear hV y0 y1 y2 y3 y4 y5 y6 y7 y8 x7 d6 d7 f6 f7 hrunT hX
  go_loopw [4] (fun v4 wr => ∃ (q : Nat) (PA : Option Addr) (pc : Nat) (vs : Nat → Option Addr × Nat), q ≤ J.pn ∧ v4 = .int .i64 q ∧ Hid (CpI J A n c w wr X q PA pc vs TA tc)) (fun v4 _ => J.pn - (intOf v4).toNat)
  case atStart => exact ⟨0, _, _, _, by omega, rfl, LK⟩
  case round =>
    clear LK
    obtain ⟨q, PA, pc, vs, hq, rfl, hL⟩ := hrel
    have bx := hL.out.bx
    have bo := hL.out.bo
    have hsz := hL.out.s
    have hwX := hL.out.x
    by_cases hqn : q < J.pn
    · obtain ⟨a, hpa, e0, e1, e2⟩ := HJ.out.1 q hqn
      have hps := HP.out q hqn
      have cP := hL.out.o.keep0 e0
      have hI := e2.only0 hL.out.o
      have x6 := bx.cell 6
      unfold o9 at x6
      rw [hpa] at x6
      have j0 : (0 : Int) ≤ (q : Int) := by omega
      have j1 : (q : Int) < (J.pn : Int) := by omega
      obtain ⟨A', c', w2, hrun1, hA', o2⟩ := app_copy wr.drew 67 99 i99 (.agg z5) 5 40 Tryz.underlying67 hi99 hz990 hz991 hz992 rfl (by omega) (J.P q).A (J.P q).n (J.P q).c (GI (insL (J.P q).n (J.P q).f)) (by rw [GI_len, insL_len]) (fun h => ins_src (hI.only0 (Only.refl [] wr).drew) h) (oneI _) (by unfold maxLen; omega) (by omega)
      have o2 : Only [] wr w2 := ((Only.refl [] wr).drew).trans0 o2
      have hs2 := o2.size
      have hA' : w2.ownsRow (X + 3) 99 5 (.slice A' (J.P q).n c') (J.P q).n (GI (insL (J.P q).n (J.P q).f)) := own_mono hA' hsz
      have cp2 := hL.out.cp.only0 o2
      obtain ⟨g, d, w3, hrun2, cp3, o3⟩ := app_prog w2 (X + 3) PA pc J.P vs q A' c' cp2 hA' (by omega) (by omega)
      have c6a := bo.cell 6
      have bo2 := bo.only o2 (by simp)
      have c6b := bo2.cell 6
      have c6c := (bo2.alloc (.cells #[.slice A' (J.P q).n c'] 67)).cell 6
      have hge := own_ge cp2.row
      have nO : ∀ k, k < X + 3 → k ∉ blkOf PA := fun k hk hm => by have := (hge k hm).1; omega
      have bo3 := bo2.only o3 (nO _ (by omega))
      have d6 := bo3.cell 6
      have f6 := bo3.frozen 6
      have hs3 := o3.size
      have o4 : Only [X + 2] w3 (w3.setCell ⟨X + 2, 6, none⟩ (.slice (some ⟨g, 0, none⟩) (q + 1) d)) := (Only.refl [X + 2] w3).setCell (p := ⟨X + 2, 6, none⟩) (.inl (by simp)) _
      have tx2 := own_only' hL.out.tx o2 (by simp)
      have tx3 := own_only' tx2 o3 (fun k hk hk2 => own_apart tx2 cp2.row (by decide) k hk hk2)
      have LN := hide (show CpI J A n c w (w3.setCell ⟨X + 2, 6, none⟩ (.slice (some ⟨g, 0, none⟩) (q + 1) d)) X (q + 1) (some ⟨g, 0, none⟩) d (upV vs q (A', c')) TA tc from
        ⟨((bx.only o2 (by simp)).only o3 (nO _ (by omega))).only o4 (by simp), ((hL.out.bz.only o2 (by simp)).only o3 (nO _ (by omega))).only o4 (by simp), bo3.set_ 6 _, own_only' tx3 o4 (fun k hk => by have := (own_ge tx3 k hk).1; simp; omega), cp3.keep o4 (fun k hk => by simp at hk; subst hk; exact ⟨_, _, bo3, by decide, by decide⟩), ((hL.out.o.trans0 o2).trans o3 (fun k hk => .inr (by have := (hge k hk).1; omega))).trans o4 (fun k hk => .inr (by simp at hk; omega)), hwX, by simp; omega⟩)
      unfold o9 at c6a c6b c6c d6
      clear e0 e1 e2 hps hI hpa hA' cp2 cp3 o2 o3 o4 bo2 bo3 hge nO tx2 tx3 bx bo
      go_wp2_with fail
      go_region
      go_wp2_with fail
      go_roundw
      case rel => exact ⟨q + 1, _, _, _, by omega, by go_num, LN⟩
      case measure => simp [intOf]; omega
    · obtain rfl : q = J.pn := by omega
      have x6 := bx.cell 6
      have x8 := bx.cell 8
      have hEe := HE.out.only0 hL.out.o
      obtain ⟨EA, ec, w2, hrunE, hEA, o2⟩ := app_copy wr 27 24 i24 (.agg #[.int .i64 0, .int .i64 0]) 2 16 Tryz.underlying27 hi24 hz240 hz241 hz242 rfl (by omega) A n c (EvV (evL n f)) (by rw [EvV_len, evL_len]) (fun h => ev_src hEe h) (oneE _) (by unfold maxLen; omega) (by omega)
      have bo2 := bo.only o2 (by simp)
      have d8 := bo2.cell 8
      have f8 := bo2.frozen 8
      have bo3 : Blk (w2.setCell ⟨X + 2, 8, none⟩ (.slice EA n ec)) (X + 2) 54 (o9 J (.slice PA J.pn pc) (.slice TA J.tn tc) (.slice EA n ec)) := bo2.set_ 8 _
      have o3 : Only [X + 2] w2 (w2.setCell ⟨X + 2, 8, none⟩ (.slice EA n ec)) := (Only.refl [X + 2] w2).setCell (p := ⟨X + 2, 8, none⟩) (.inl (by simp)) _
      have bz3 := (hL.out.bz.only o2 (by simp)).only o3 (by simp)
      have hs2 := o2.size
      have tx3 := own_only' (own_only' hL.out.tx o2 (by simp)) o3 (fun k hk => by have := (own_ge hL.out.tx k hk).1; simp; omega)
      have cp3 := (hL.out.cp.only0 o2).keep o3 (fun k hk => by simp at hk; subst hk; exact ⟨_, _, bo2, by decide, by decide⟩)
      have ev3 := own_only' hEA o3 (fun k hk => by have := (own_ge hEA k hk).1; simp; omega)
      have oo := (hL.out.o.trans0 o2).trans o3 (fun k hk => .inr (by simp at hk; omega))
      have y0 := bo3.cell 0; have y1 := bo3.cell 1; have y2 := bo3.cell 2; have y3 := bo3.cell 3; have y4 := bo3.cell 4; have y5 := bo3.cell 5; have y6 := bo3.cell 6; have y7 := bo3.cell 7; have y8 := bo3.cell 8
      have z0 := bz3.cell 0; have z1 := bz3.cell 1; have z2 := bz3.cell 2; have z3 := bz3.cell 3; have z4 := bz3.cell 4; have z5 := bz3.cell 5; have z6 := bz3.cell 6; have z7 := bz3.cell 7; have z8 := bz3.cell 8
      have g0 := bz3.frozen 0; have g1 := bz3.frozen 1; have g2 := bz3.frozen 2; have g3 := bz3.frozen 3; have g4 := bz3.frozen 4; have g5 := bz3.frozen 5; have g6 := bz3.frozen 6; have g7 := bz3.frozen 7; have g8 := bz3.frozen 8
      unfold o9 at x6 x8 d8 y0 y1 y2 y3 y4 y5 y6 y7 y8
      unfold z9 at z0 z1 z2 z3 z4 z5 z6 z7 z8
      have BZ := hide bz3
      have TX := hide tx3
      have CP := hide cp3
      have EV := hide ev3
      have OO := hide oo
      clear bo2 bo3 o3 bz3 tx3 cp3 ev3 oo bx bo o2 hEA hEe
      go_wp2_with fail
      have bzf := (((((((((BZ.out.set_ 0 (.int .i64 J.t)).set_ 1 (.int .i64 J.o)).set_ 2 (.int .i64 J.s)).set_ 3 (.int .i64 J.q)).set_ 4 (.int .i64 J.m)).set_ 5 (.int .i64 J.p)).set_ 6 (.slice PA J.pn pc)).set_ 7 (.slice TA J.tn tc)).set_ 8 (.slice EA n ec))
      have o5 := ((((((((((Only.refl [X + 1] (w2.setCell ⟨X + 2, 8, none⟩ (.slice EA n ec))).setCell (p := ⟨X + 1, 0, none⟩) (.inl (by simp)) (.int .i64 J.t)).setCell (p := ⟨X + 1, 1, none⟩) (.inl (by simp)) (.int .i64 J.o)).setCell (p := ⟨X + 1, 2, none⟩) (.inl (by simp)) (.int .i64 J.s)).setCell (p := ⟨X + 1, 3, none⟩) (.inl (by simp)) (.int .i64 J.q)).setCell (p := ⟨X + 1, 4, none⟩) (.inl (by simp)) (.int .i64 J.m)).setCell (p := ⟨X + 1, 5, none⟩) (.inl (by simp)) (.int .i64 J.p)).setCell (p := ⟨X + 1, 6, none⟩) (.inl (by simp)) (.slice PA J.pn pc)).setCell (p := ⟨X + 1, 7, none⟩) (.inl (by simp)) (.slice TA J.tn tc)).setCell (p := ⟨X + 1, 8, none⟩) (.inl (by simp)) (.slice EA n ec))
      obtain ⟨Wf, hWf⟩ : ∃ W, ((((((((((w2.setCell ⟨X + 2, 8, none⟩ (.slice EA n ec)).setCell ⟨X + 1, 0, none⟩ (.int .i64 J.t)).setCell ⟨X + 1, 1, none⟩ (.int .i64 J.o)).setCell ⟨X + 1, 2, none⟩ (.int .i64 J.s)).setCell ⟨X + 1, 3, none⟩ (.int .i64 J.q)).setCell ⟨X + 1, 4, none⟩ (.int .i64 J.m)).setCell ⟨X + 1, 5, none⟩ (.int .i64 J.p)).setCell ⟨X + 1, 6, none⟩ (.slice PA J.pn pc)).setCell ⟨X + 1, 7, none⟩ (.slice TA J.tn tc)).setCell ⟨X + 1, 8, none⟩ (.slice EA n ec)) = W := ⟨_, rfl⟩
      rw [hWf] at bzf o5 ⊢
      have tx5 := own_only' TX.out o5 (fun k hk => by have := (own_ge TX.out k hk).1; simp; omega)
      have cp5 := CP.out.keep o5 (fun k hk => by simp at hk; subst hk; exact ⟨_, _, BZ.out, by decide, by decide⟩)
      have ev5 := own_only' EV.out o5 (fun k hk => by have := (own_ge EV.out k hk).1; simp; omega)
      have hJW : JbAt Wf (cpJ J PA pc vs TA tc) := ⟨cp5.at_ (fun k hk => (HJ.out.1 k hk).elim fun _ h => h.2.2.1), own_txs tx5, by show J.pn ≤ maxLen; unfold maxLen; omega, by show J.tn ≤ maxLen; unfold maxLen; omega⟩
      refine bodyPost_ret (v := .agg (sc9 (cpJ J PA pc vs TA tc) EA n ec)) (results_cell Tryz.results21 rfl (load54 (g := X + 1) bzf)) rfl ⟨⟨PA, pc, vs, TA, tc, EA, ec, rfl, hJW, own_evs ev5, fun a ha => ?_⟩, OO.out.trans o5 (fun k hk => .inr (by simp at hk; omega))⟩
      subst ha
      obtain ⟨cs, hb⟩ := own_ty ev5 a.block (by simp [blkOf])
      exact hb.lt
end Go.Proofs.YteblhklclcjonaaGreatDoor
namespace Go.Proofs.YteblhklclcjonaaGreatDoor
open Go.RowKit
set_option linter.unusedVariables false
set_option linter.all false
set_option maxRecDepth 100000

set_option maxHeartbeats 16000000 in
theorem stexts_Ja (J : Jb) (A : Option Addr) (n c : Nat) (f : Nat → Ev) (w : World) (he : Env w) (hw4 : 4 ≤ w.heap.size) (hJ : JbAt w J) (hi : ImmOk J) (hE : EvAt w A n f) (hEl : EvLt A w.heap.size) (hn : n ≤ maxLen) (hpt : J.pn + J.tn ≤ 9000000000000000000) (hje : jobE J = 2) (hck : chkE J n f = (0, 2)) : Calls Tryz.prog 4 #[.agg (sc9 J A n c)] w fun e w' => e = .returned (.bool true) ∧ Only [] w w' := by
  have HCK := hide hck
  have HJE := hide hje
  have KN := hide (fun W (o : Only [] w W) => sknown_any W (he.only o) (by have := o.size; omega))
  have MA := hide (fun W (o : Only [] w W) => muchx_any J A n c W (jb_only0 hJ o) hpt)
  have HJ := hide hJ
  have HEV := hide hE
  have HE := hide he
  have HEL := hide hEl
  have HI := hide hi
  have OC := hide ((Only.refl [] w).alloc (.cells (sc9 J A n c) 54))
  have B1 := hide (Blk.new w 54 (sc9 J A n c))
  unfold sc9 at B1 OC MA
  unfold sc9
  obtain ⟨X, hX⟩ : ∃ X, w.heap.size = X := ⟨_, rfl⟩
  rw [hX] at B1
  have x0 := B1.out.cell 0; have x1 := B1.out.cell 1; have x2 := B1.out.cell 2; have x3 := B1.out.cell 3; have x4 := B1.out.cell 4; have x5 := B1.out.cell 5; have x6 := B1.out.cell 6; have x7 := B1.out.cell 7; have x8 := B1.out.cell 8
  clear he hJ hi hE hEl
  clear hje hck
  go_enter Tryz.func4, Tryz.ntmps4
  go_wp2_with (first
    | (go_at_call 7; (with_reducible refine (KN.out _ OC.out).mono ?_); rintro e v1 ⟨rfl, o⟩; have OC := hide (OC.out.trans0 o); clear o)
    | (go_at_call 20; (with_reducible refine (MA.out _ OC.out).mono ?_); rintro e v3 ⟨⟨bA, rfl, hm⟩, o⟩; have HM := hide hm; have OC := hide (OC.out.trans0 o); have B1 := hide (B1.out.only o (by simp)); clear x0 x1 x2 x3 x4 x5 x6 x7 x8; have x0 := B1.out.cell 0; have x1 := B1.out.cell 1; have x2 := B1.out.cell 2; have x3 := B1.out.cell 3; have x4 := B1.out.cell 4; have x5 := B1.out.cell 5; have x6 := B1.out.cell 6; have x7 := B1.out.cell 7; have x8 := B1.out.cell 8; clear o MA hm; cases bA))
  · have hsm := HM.out (by simp)
    have HSM := hide hsm
    have CPY := hide (fun W (o : Only [] w W) => copy_any J A n c f W (jb_only0 HJ.out o) (HEV.out.only0 o) (by have := hsm.1.len; omega) (by have := hsm.1.len; omega) hsm.2 hsm.1.prog)
    unfold sc9 cpJ at CPY
    clear hsm HM
    go_wp2_with (go_at_call 21; (with_reducible refine (CPY.out _ OC.out).mono ?_); rintro e v4 ⟨⟨PA, pc, vs, TA, tc, EA, ec, rfl, hJ2, hE2, hL2⟩, o⟩; have oy := (Only.refl [] v4).alloc (.cells #[.int .i64 J.t, .int .i64 J.o, .int .i64 J.s, .int .i64 J.q, .int .i64 J.m, .int .i64 J.p, .slice PA J.pn pc, .slice TA J.tn tc, .slice EA n ec] 54); have HJ2 := hide (jb_only0 hJ2 oy); have HE2 := hide (hE2.only0 oy); have HL2 := hide (show EvLt EA (v4.alloc (.cells #[.int .i64 J.t, .int .i64 J.o, .int .i64 J.s, .int .i64 J.q, .int .i64 J.m, .int .i64 J.p, .slice PA J.pn pc, .slice TA J.tn tc, .slice EA n ec] 54)).heap.size from fun a ha => by have := hL2 a ha; have := oy.size; omega); have BY := hide (Blk.new v4 54 #[.int .i64 J.t, .int .i64 J.o, .int .i64 J.s, .int .i64 J.q, .int .i64 J.m, .int .i64 J.p, .slice PA J.pn pc, .slice TA J.tn tc, .slice EA n ec]); have oz := o.trans0 oy; have OC := hide (OC.out.trans0 oz); have B1 := hide (B1.out.only oz (by simp)); clear x0 x1 x2 x3 x4 x5 x6 x7 x8; have x0 := B1.out.cell 0; have x1 := B1.out.cell 1; have x2 := B1.out.cell 2; have x3 := B1.out.cell 3; have x4 := B1.out.cell 4; have x5 := B1.out.cell 5; have x6 := B1.out.cell 6; have x7 := B1.out.cell 7; have x8 := B1.out.cell 8; clear o oy oz hJ2 hE2 hL2 CPY)
    obtain ⟨V, hV⟩ : ∃ W, v4.alloc (.cells #[.int .i64 J.t, .int .i64 J.o, .int .i64 J.s, .int .i64 J.q, .int .i64 J.m, .int .i64 J.p, .slice PA J.pn pc, .slice TA J.tn tc, .slice EA n ec] 54) = W := ⟨_, rfl⟩
    obtain ⟨Y, hY⟩ : ∃ y, v4.heap.size = y := ⟨_, rfl⟩
    rw [hV] at HJ2 HE2 HL2 BY OC B1 x0 x1 x2 x3 x4 x5 x6 x7 x8 ⊢
    rw [hY] at BY ⊢
    have y0 := BY.out.cell 0; have y1 := BY.out.cell 1; have y2 := BY.out.cell 2; have y3 := BY.out.cell 3; have y4 := BY.out.cell 4; have y5 := BY.out.cell 5; have y6 := BY.out.cell 6; have y7 := BY.out.cell 7; have y8 := BY.out.cell 8
    have OX := hide (Only.refl [] V)
    have HJ2 : Hid (JbAt V (cpJ J PA pc vs TA tc)) := HJ2
    have HE2 := HE2
    have CK := hide (fun W (o : Only [] V W) => (show Calls Tryz.prog 22 #[.agg #[.int .i64 J.t, .int .i64 J.o, .int .i64 J.s, .int .i64 J.q, .int .i64 J.m, .int .i64 J.p, .slice PA J.pn pc, .slice TA J.tn tc, .slice EA n ec]] W fun e w' => e = .returned (.tuple #[.int .i64 (0 : Int), .int .i64 (2 : Int)]) ∧ Only [] W w' from by
      have h := scheck_any (cpJ J PA pc vs TA tc) EA n ec f W (jb_only0 HJ2.out o) (HE2.out.only0 o) hn
      rw [chkE_cp, HCK.out] at h
      exact h))
    have RC := hide (fun W (o : Only [] V W) => (show Calls Tryz.prog 25 #[.agg #[.int .i64 J.t, .int .i64 J.o, .int .i64 J.s, .int .i64 J.q, .int .i64 J.m, .int .i64 J.p, .slice J.pA J.pn J.pc, .slice J.tA J.tn J.tc, .slice A n c]] W fun e w' => e = .returned (.tuple #[.int .i64 (0 : Int), .int .i64 (2 : Int)]) ∧ Only [] W w' from by
      have h := rscheck_any J A n c f W (jb_only0 HJ.out (OC.out.trans0 o)) (HEV.out.only0 (OC.out.trans0 o)) hn
      rw [HCK.out] at h
      exact h))
    have SM := hide (fun W (o : Only [] V W) => (show Calls Tryz.prog 26 #[.agg #[.int .i64 J.t, .int .i64 J.o, .int .i64 J.s, .int .i64 J.q, .int .i64 J.m, .int .i64 J.p, .slice PA J.pn pc, .slice TA J.tn tc, .slice EA n ec], .agg #[.int .i64 J.t, .int .i64 J.o, .int .i64 J.s, .int .i64 J.q, .int .i64 J.m, .int .i64 J.p, .slice J.pA J.pn J.pc, .slice J.tA J.tn J.tc, .slice A n c]] W fun e w' => e = .returned (.bool true) ∧ Only [] W w' from by
      have h := rsame26_any (cpJ J PA pc vs TA tc) EA n ec f J A n c f W (jb_only0 HJ2.out o) (jb_only0 HJ.out (OC.out.trans0 o)) (HE2.out.only0 o) (HEV.out.only0 (OC.out.trans0 o)) hn
      rw [show (sjB (cpJ J PA pc vs TA tc) J && esB n n f f) = true from rsB_cp J PA pc vs TA tc n f] at h
      exact h))
    have TX := hide (fun W (o : Only [] V W) => (show Calls Tryz.prog 23 #[.agg #[.int .i64 J.t, .int .i64 J.o, .int .i64 J.s, .int .i64 J.q, .int .i64 J.m, .int .i64 J.p, .slice PA J.pn pc, .slice TA J.tn tc, .slice EA n ec]] W fun e w' => e = .returned (.tuple #[.string ⟨#[]⟩, .int .i64 (2 : Int)]) ∧ Only [] W w' from by
      have h := stext_bad (cpJ J PA pc vs TA tc) EA n ec f W (jb_only0 HJ2.out o) (HE2.out.only0 o) hn (by rw [chkE_cp, HCK.out]; show ((2 : Int) : Int) ≠ 0; decide)
      rw [chkE_cp, HCK.out] at h
      exact h))
    have JB := hide (fun W (o : Only [] V W) => (show Calls Tryz.prog 24 #[.agg #[.int .i64 J.t, .int .i64 J.o, .int .i64 J.s, .int .i64 J.q, .int .i64 J.m, .int .i64 J.p, .slice PA J.pn pc, .slice TA J.tn tc]] W fun e w' => e = .returned (.tuple #[.string ⟨#[]⟩, .int .i64 2]) ∧ Only [] W w' from by
      have h := sjob_bad (cpJ J PA pc vs TA tc) W (jb_only0 HJ2.out o) (by rw [jobE_cp, HJE.out]; decide)
      rw [jobE_cp, HJE.out] at h
      exact h))
    clear hV hY
    go_wp2_with (first
      | (go_at_call 22; (with_reducible refine (CK.out _ OX.out).mono ?_); rintro e v5 ⟨rfl, o⟩; have OX := hide (OX.out.trans0 o); have B1 := hide (B1.out.only o (by simp)); have BY := hide (BY.out.only o (by simp)); clear x0 x1 x2 x3 x4 x5 x6 x7 x8 y0 y1 y2 y3 y4 y5 y6 y7 y8; have x0 := B1.out.cell 0; have x1 := B1.out.cell 1; have x2 := B1.out.cell 2; have x3 := B1.out.cell 3; have x4 := B1.out.cell 4; have x5 := B1.out.cell 5; have x6 := B1.out.cell 6; have x7 := B1.out.cell 7; have x8 := B1.out.cell 8; have y0 := BY.out.cell 0; have y1 := BY.out.cell 1; have y2 := BY.out.cell 2; have y3 := BY.out.cell 3; have y4 := BY.out.cell 4; have y5 := BY.out.cell 5; have y6 := BY.out.cell 6; have y7 := BY.out.cell 7; have y8 := BY.out.cell 8; clear o CK)
      | (go_at_call 23; (with_reducible refine (TX.out _ OX.out).mono ?_); rintro e v5 ⟨rfl, o⟩; have OX := hide (OX.out.trans0 o); have B1 := hide (B1.out.only o (by simp)); have BY := hide (BY.out.only o (by simp)); clear x0 x1 x2 x3 x4 x5 x6 x7 x8 y0 y1 y2 y3 y4 y5 y6 y7 y8; have x0 := B1.out.cell 0; have x1 := B1.out.cell 1; have x2 := B1.out.cell 2; have x3 := B1.out.cell 3; have x4 := B1.out.cell 4; have x5 := B1.out.cell 5; have x6 := B1.out.cell 6; have x7 := B1.out.cell 7; have x8 := B1.out.cell 8; have y0 := BY.out.cell 0; have y1 := BY.out.cell 1; have y2 := BY.out.cell 2; have y3 := BY.out.cell 3; have y4 := BY.out.cell 4; have y5 := BY.out.cell 5; have y6 := BY.out.cell 6; have y7 := BY.out.cell 7; have y8 := BY.out.cell 8; clear o TX)
      | (go_at_call 24; (with_reducible refine (JB.out _ OX.out).mono ?_); rintro e v5 ⟨rfl, o⟩; have OX := hide (OX.out.trans0 o); have B1 := hide (B1.out.only o (by simp)); have BY := hide (BY.out.only o (by simp)); clear x0 x1 x2 x3 x4 x5 x6 x7 x8 y0 y1 y2 y3 y4 y5 y6 y7 y8; have x0 := B1.out.cell 0; have x1 := B1.out.cell 1; have x2 := B1.out.cell 2; have x3 := B1.out.cell 3; have x4 := B1.out.cell 4; have x5 := B1.out.cell 5; have x6 := B1.out.cell 6; have x7 := B1.out.cell 7; have x8 := B1.out.cell 8; have y0 := BY.out.cell 0; have y1 := BY.out.cell 1; have y2 := BY.out.cell 2; have y3 := BY.out.cell 3; have y4 := BY.out.cell 4; have y5 := BY.out.cell 5; have y6 := BY.out.cell 6; have y7 := BY.out.cell 7; have y8 := BY.out.cell 8; clear o JB)
      | (go_at_call 25; (with_reducible refine (RC.out _ OX.out).mono ?_); rintro e v5 ⟨rfl, o⟩; have OX := hide (OX.out.trans0 o); have B1 := hide (B1.out.only o (by simp)); have BY := hide (BY.out.only o (by simp)); clear x0 x1 x2 x3 x4 x5 x6 x7 x8 y0 y1 y2 y3 y4 y5 y6 y7 y8; have x0 := B1.out.cell 0; have x1 := B1.out.cell 1; have x2 := B1.out.cell 2; have x3 := B1.out.cell 3; have x4 := B1.out.cell 4; have x5 := B1.out.cell 5; have x6 := B1.out.cell 6; have x7 := B1.out.cell 7; have x8 := B1.out.cell 8; have y0 := BY.out.cell 0; have y1 := BY.out.cell 1; have y2 := BY.out.cell 2; have y3 := BY.out.cell 3; have y4 := BY.out.cell 4; have y5 := BY.out.cell 5; have y6 := BY.out.cell 6; have y7 := BY.out.cell 7; have y8 := BY.out.cell 8; clear o RC)
      | (go_at_call 26; (with_reducible refine (SM.out _ OX.out).mono ?_); rintro e v5 ⟨rfl, o⟩; have OX := hide (OX.out.trans0 o); have B1 := hide (B1.out.only o (by simp)); have BY := hide (BY.out.only o (by simp)); clear x0 x1 x2 x3 x4 x5 x6 x7 x8 y0 y1 y2 y3 y4 y5 y6 y7 y8; have x0 := B1.out.cell 0; have x1 := B1.out.cell 1; have x2 := B1.out.cell 2; have x3 := B1.out.cell 3; have x4 := B1.out.cell 4; have x5 := B1.out.cell 5; have x6 := B1.out.cell 6; have x7 := B1.out.cell 7; have x8 := B1.out.cell 8; have y0 := BY.out.cell 0; have y1 := BY.out.cell 1; have y2 := BY.out.cell 2; have y3 := BY.out.cell 3; have y4 := BY.out.cell 4; have y5 := BY.out.cell 5; have y6 := BY.out.cell 6; have y7 := BY.out.cell 7; have y8 := BY.out.cell 8; clear o SM)
      | (go_at_call 12; (with_reducible refine (num_any _ _).mono ?_); rintro e v2 ⟨rfl, hw⟩; obtain rfl := hw.symm; clear hw)
      | (go_at_call 7; (with_reducible refine (KN.out _ (OC.out.trans0 OX.out)).mono ?_); rintro e v1 ⟨rfl, o⟩; have OX := hide (OX.out.trans0 o); clear o))
    go_ret
    exact ⟨rfl, OC.out.trans0 OX.out⟩
  · go_ret
    exact ⟨rfl, OC.out⟩
set_option maxHeartbeats 16000000 in
theorem stexts_b1 (J : Jb) (A : Option Addr) (n c : Nat) (f : Nat → Ev) (w : World) (he : Env w) (hw4 : 4 ≤ w.heap.size) (hJ : JbAt w J) (hi : ImmOk J) (hE : EvAt w A n f) (hEl : EvLt A w.heap.size) (hn : n ≤ maxLen) (hpt : J.pn + J.tn ≤ 9000000000000000000) (hje : jobE J = 0) (hck : chkE J n f = (0, 0)) : Calls Tryz.prog 4 #[.agg (sc9 J A n c)] w fun e w' => e = .returned (.bool true) ∧ Only [] w w' := by
  have HCK := hide hck
  have HJE := hide hje
  have HJL := hide (show (jobT J).length ≤ 1200000 from by rw [show jobT J = acc2 J J.tn from rfl]; exact acc2_len (good_job hje hi) (Nat.le_refl _))
  have HLL := hide (linesL_len (good_job hje hi))
  obtain ⟨sJ, hsJ⟩ : ∃ s, bs (jobT J) = s := ⟨_, rfl⟩
  have HSJ := hide hsJ
  clear hsJ
  obtain ⟨sT, hsT⟩ : ∃ s, bs (scrT J n f) = s := ⟨_, rfl⟩
  have HST := hide hsT
  clear hsT
  have KN := hide (fun W (o : Only [] w W) => sknown_any W (he.only o) (by have := o.size; omega))
  have MA := hide (fun W (o : Only [] w W) => muchx_any J A n c W (jb_only0 hJ o) hpt)
  have HJ := hide hJ
  have HEV := hide hE
  have HE := hide he
  have HEL := hide hEl
  have HI := hide hi
  have OC := hide ((Only.refl [] w).alloc (.cells (sc9 J A n c) 54))
  have B1 := hide (Blk.new w 54 (sc9 J A n c))
  unfold sc9 at B1 OC MA
  unfold sc9
  obtain ⟨X, hX⟩ : ∃ X, w.heap.size = X := ⟨_, rfl⟩
  rw [hX] at B1
  have x0 := B1.out.cell 0; have x1 := B1.out.cell 1; have x2 := B1.out.cell 2; have x3 := B1.out.cell 3; have x4 := B1.out.cell 4; have x5 := B1.out.cell 5; have x6 := B1.out.cell 6; have x7 := B1.out.cell 7; have x8 := B1.out.cell 8
  clear he hJ hi hE hEl
  clear hje hck
  go_enter Tryz.func4, Tryz.ntmps4
  go_wp2_with (first
    | (go_at_call 7; (with_reducible refine (KN.out _ OC.out).mono ?_); rintro e v1 ⟨rfl, o⟩; have OC := hide (OC.out.trans0 o); clear o)
    | (go_at_call 20; (with_reducible refine (MA.out _ OC.out).mono ?_); rintro e v3 ⟨⟨bA, rfl, hm⟩, o⟩; have HM := hide hm; have OC := hide (OC.out.trans0 o); have B1 := hide (B1.out.only o (by simp)); clear x0 x1 x2 x3 x4 x5 x6 x7 x8; have x0 := B1.out.cell 0; have x1 := B1.out.cell 1; have x2 := B1.out.cell 2; have x3 := B1.out.cell 3; have x4 := B1.out.cell 4; have x5 := B1.out.cell 5; have x6 := B1.out.cell 6; have x7 := B1.out.cell 7; have x8 := B1.out.cell 8; clear o MA hm; cases bA))
  · have hsm := HM.out (by simp)
    have HSM := hide hsm
    have CPY := hide (fun W (o : Only [] w W) => copy_any J A n c f W (jb_only0 HJ.out o) (HEV.out.only0 o) (by have := hsm.1.len; omega) (by have := hsm.1.len; omega) hsm.2 hsm.1.prog)
    unfold sc9 cpJ at CPY
    clear hsm HM
    go_wp2_with (go_at_call 21; (with_reducible refine (CPY.out _ OC.out).mono ?_); rintro e v4 ⟨⟨PA, pc, vs, TA, tc, EA, ec, rfl, hJ2, hE2, hL2⟩, o⟩; have oy := (Only.refl [] v4).alloc (.cells #[.int .i64 J.t, .int .i64 J.o, .int .i64 J.s, .int .i64 J.q, .int .i64 J.m, .int .i64 J.p, .slice PA J.pn pc, .slice TA J.tn tc, .slice EA n ec] 54); have HJ2 := hide (jb_only0 hJ2 oy); have HE2 := hide (hE2.only0 oy); have HL2 := hide (show EvLt EA (v4.alloc (.cells #[.int .i64 J.t, .int .i64 J.o, .int .i64 J.s, .int .i64 J.q, .int .i64 J.m, .int .i64 J.p, .slice PA J.pn pc, .slice TA J.tn tc, .slice EA n ec] 54)).heap.size from fun a ha => by have := hL2 a ha; have := oy.size; omega); have BY := hide (Blk.new v4 54 #[.int .i64 J.t, .int .i64 J.o, .int .i64 J.s, .int .i64 J.q, .int .i64 J.m, .int .i64 J.p, .slice PA J.pn pc, .slice TA J.tn tc, .slice EA n ec]); have oz := o.trans0 oy; have OC := hide (OC.out.trans0 oz); have B1 := hide (B1.out.only oz (by simp)); clear x0 x1 x2 x3 x4 x5 x6 x7 x8; have x0 := B1.out.cell 0; have x1 := B1.out.cell 1; have x2 := B1.out.cell 2; have x3 := B1.out.cell 3; have x4 := B1.out.cell 4; have x5 := B1.out.cell 5; have x6 := B1.out.cell 6; have x7 := B1.out.cell 7; have x8 := B1.out.cell 8; clear o oy oz hJ2 hE2 hL2 CPY)
    obtain ⟨V, hV⟩ : ∃ W, v4.alloc (.cells #[.int .i64 J.t, .int .i64 J.o, .int .i64 J.s, .int .i64 J.q, .int .i64 J.m, .int .i64 J.p, .slice PA J.pn pc, .slice TA J.tn tc, .slice EA n ec] 54) = W := ⟨_, rfl⟩
    obtain ⟨Y, hY⟩ : ∃ y, v4.heap.size = y := ⟨_, rfl⟩
    rw [hV] at HJ2 HE2 HL2 BY OC B1 x0 x1 x2 x3 x4 x5 x6 x7 x8 ⊢
    rw [hY] at BY ⊢
    have y0 := BY.out.cell 0; have y1 := BY.out.cell 1; have y2 := BY.out.cell 2; have y3 := BY.out.cell 3; have y4 := BY.out.cell 4; have y5 := BY.out.cell 5; have y6 := BY.out.cell 6; have y7 := BY.out.cell 7; have y8 := BY.out.cell 8
    have OX := hide (Only.refl [] V)
    have HJ2 : Hid (JbAt V (cpJ J PA pc vs TA tc)) := HJ2
    have HE2 := HE2
    have CK := hide (fun W (o : Only [] V W) => (show Calls Tryz.prog 22 #[.agg #[.int .i64 J.t, .int .i64 J.o, .int .i64 J.s, .int .i64 J.q, .int .i64 J.m, .int .i64 J.p, .slice PA J.pn pc, .slice TA J.tn tc, .slice EA n ec]] W fun e w' => e = .returned (.tuple #[.int .i64 (0 : Int), .int .i64 (0 : Int)]) ∧ Only [] W w' from by
      have h := scheck_any (cpJ J PA pc vs TA tc) EA n ec f W (jb_only0 HJ2.out o) (HE2.out.only0 o) hn
      rw [chkE_cp, HCK.out] at h
      exact h))
    have RC := hide (fun W (o : Only [] V W) => (show Calls Tryz.prog 25 #[.agg #[.int .i64 J.t, .int .i64 J.o, .int .i64 J.s, .int .i64 J.q, .int .i64 J.m, .int .i64 J.p, .slice J.pA J.pn J.pc, .slice J.tA J.tn J.tc, .slice A n c]] W fun e w' => e = .returned (.tuple #[.int .i64 (0 : Int), .int .i64 (0 : Int)]) ∧ Only [] W w' from by
      have h := rscheck_any J A n c f W (jb_only0 HJ.out (OC.out.trans0 o)) (HEV.out.only0 (OC.out.trans0 o)) hn
      rw [HCK.out] at h
      exact h))
    have SM := hide (fun W (o : Only [] V W) => (show Calls Tryz.prog 26 #[.agg #[.int .i64 J.t, .int .i64 J.o, .int .i64 J.s, .int .i64 J.q, .int .i64 J.m, .int .i64 J.p, .slice PA J.pn pc, .slice TA J.tn tc, .slice EA n ec], .agg #[.int .i64 J.t, .int .i64 J.o, .int .i64 J.s, .int .i64 J.q, .int .i64 J.m, .int .i64 J.p, .slice J.pA J.pn J.pc, .slice J.tA J.tn J.tc, .slice A n c]] W fun e w' => e = .returned (.bool true) ∧ Only [] W w' from by
      have h := rsame26_any (cpJ J PA pc vs TA tc) EA n ec f J A n c f W (jb_only0 HJ2.out o) (jb_only0 HJ.out (OC.out.trans0 o)) (HE2.out.only0 o) (HEV.out.only0 (OC.out.trans0 o)) hn
      rw [show (sjB (cpJ J PA pc vs TA tc) J && esB n n f f) = true from rsB_cp J PA pc vs TA tc n f] at h
      exact h))
    have TX := hide (fun W (o : Only [] V W) => (show Calls Tryz.prog 23 #[.agg #[.int .i64 J.t, .int .i64 J.o, .int .i64 J.s, .int .i64 J.q, .int .i64 J.m, .int .i64 J.p, .slice PA J.pn pc, .slice TA J.tn tc, .slice EA n ec]] W fun e w' => e = .returned (.tuple #[.string sT, .int .i64 0]) ∧ Only [] W w' from by
      have h := stext_good (cpJ J PA pc vs TA tc) EA n ec f W (HE.out.only (OC.out.trans0 o)) (jb_only0 HJ2.out o) (HE2.out.only0 o) (fun a ha => by have := HL2.out a ha; have := o.size; omega) (chk_zero (by rw [chkE_cp, HCK.out]) (imm_cp HI.out PA pc vs TA tc))
      rw [scrT_cp, HST.out] at h
      exact h))
    have JB := hide (fun W (o : Only [] V W) => (show Calls Tryz.prog 24 #[.agg #[.int .i64 J.t, .int .i64 J.o, .int .i64 J.s, .int .i64 J.q, .int .i64 J.m, .int .i64 J.p, .slice PA J.pn pc, .slice TA J.tn tc]] W fun e w' => e = .returned (.tuple #[.string sJ, .int .i64 0]) ∧ Only [] W w' from by
      have h := sjob_good (cpJ J PA pc vs TA tc) W (HE.out.only (OC.out.trans0 o)) (jb_only0 HJ2.out o) (good_job (by rw [jobE_cp, HJE.out]) (imm_cp HI.out PA pc vs TA tc))
      rw [jobT_cp, HSJ.out] at h
      exact h))
    have LN := hide (fun W (o : Only [] V W) => (show Calls Tryz.prog 27 #[.agg #[.int .i64 J.t, .int .i64 J.o, .int .i64 J.s, .int .i64 J.q, .int .i64 J.m, .int .i64 J.p, .slice J.pA J.pn J.pc, .slice J.tA J.tn J.tc]] W fun e w' => (∃ A c, e = .returned (.slice A (linesL J).length c) ∧ Qs w' (W.heap.size + 1) A c ((linesL J).map bs)) ∧ Only [] W w' from rlines_any J W (HE.out.only (OC.out.trans0 o)) (jb_only0 HJ.out (OC.out.trans0 o)) (good_job HJE.out HI.out)))
    have RT := hide (fun W (o : Only [] V W) => (show Calls Tryz.prog 28 #[.agg #[.int .i64 J.t, .int .i64 J.o, .int .i64 J.s, .int .i64 J.q, .int .i64 J.m, .int .i64 J.p, .slice J.pA J.pn J.pc, .slice J.tA J.tn J.tc, .slice A n c]] W fun e w' => e = .returned (.string sT) ∧ Only [] W w' from by
      have h := rtext_any J A n c f W (HE.out.only (OC.out.trans0 o)) (jb_only0 HJ.out (OC.out.trans0 o)) (HEV.out.only0 (OC.out.trans0 o)) (chk_zero (by rw [HCK.out]) HI.out)
      rw [HST.out] at h
      exact h))
    clear hV hY
    go_wp2_with (first
      | (go_at_call 22; (with_reducible refine (CK.out _ OX.out).mono ?_); rintro e v5 ⟨rfl, o⟩; have OX := hide (OX.out.trans0 o); have B1 := hide (B1.out.only o (by simp)); have BY := hide (BY.out.only o (by simp)); clear x0 x1 x2 x3 x4 x5 x6 x7 x8 y0 y1 y2 y3 y4 y5 y6 y7 y8; have x0 := B1.out.cell 0; have x1 := B1.out.cell 1; have x2 := B1.out.cell 2; have x3 := B1.out.cell 3; have x4 := B1.out.cell 4; have x5 := B1.out.cell 5; have x6 := B1.out.cell 6; have x7 := B1.out.cell 7; have x8 := B1.out.cell 8; have y0 := BY.out.cell 0; have y1 := BY.out.cell 1; have y2 := BY.out.cell 2; have y3 := BY.out.cell 3; have y4 := BY.out.cell 4; have y5 := BY.out.cell 5; have y6 := BY.out.cell 6; have y7 := BY.out.cell 7; have y8 := BY.out.cell 8; clear o CK)
      | (go_at_call 23; (with_reducible refine (TX.out _ OX.out).mono ?_); rintro e v5 ⟨rfl, o⟩; have OX := hide (OX.out.trans0 o); have B1 := hide (B1.out.only o (by simp)); have BY := hide (BY.out.only o (by simp)); clear x0 x1 x2 x3 x4 x5 x6 x7 x8 y0 y1 y2 y3 y4 y5 y6 y7 y8; have x0 := B1.out.cell 0; have x1 := B1.out.cell 1; have x2 := B1.out.cell 2; have x3 := B1.out.cell 3; have x4 := B1.out.cell 4; have x5 := B1.out.cell 5; have x6 := B1.out.cell 6; have x7 := B1.out.cell 7; have x8 := B1.out.cell 8; have y0 := BY.out.cell 0; have y1 := BY.out.cell 1; have y2 := BY.out.cell 2; have y3 := BY.out.cell 3; have y4 := BY.out.cell 4; have y5 := BY.out.cell 5; have y6 := BY.out.cell 6; have y7 := BY.out.cell 7; have y8 := BY.out.cell 8; clear o TX)
      | (go_at_call 24; (with_reducible refine (JB.out _ OX.out).mono ?_); rintro e v5 ⟨rfl, o⟩; have OX := hide (OX.out.trans0 o); have B1 := hide (B1.out.only o (by simp)); have BY := hide (BY.out.only o (by simp)); clear x0 x1 x2 x3 x4 x5 x6 x7 x8 y0 y1 y2 y3 y4 y5 y6 y7 y8; have x0 := B1.out.cell 0; have x1 := B1.out.cell 1; have x2 := B1.out.cell 2; have x3 := B1.out.cell 3; have x4 := B1.out.cell 4; have x5 := B1.out.cell 5; have x6 := B1.out.cell 6; have x7 := B1.out.cell 7; have x8 := B1.out.cell 8; have y0 := BY.out.cell 0; have y1 := BY.out.cell 1; have y2 := BY.out.cell 2; have y3 := BY.out.cell 3; have y4 := BY.out.cell 4; have y5 := BY.out.cell 5; have y6 := BY.out.cell 6; have y7 := BY.out.cell 7; have y8 := BY.out.cell 8; clear o JB)
      | (go_at_call 25; (with_reducible refine (RC.out _ OX.out).mono ?_); rintro e v5 ⟨rfl, o⟩; have OX := hide (OX.out.trans0 o); have B1 := hide (B1.out.only o (by simp)); have BY := hide (BY.out.only o (by simp)); clear x0 x1 x2 x3 x4 x5 x6 x7 x8 y0 y1 y2 y3 y4 y5 y6 y7 y8; have x0 := B1.out.cell 0; have x1 := B1.out.cell 1; have x2 := B1.out.cell 2; have x3 := B1.out.cell 3; have x4 := B1.out.cell 4; have x5 := B1.out.cell 5; have x6 := B1.out.cell 6; have x7 := B1.out.cell 7; have x8 := B1.out.cell 8; have y0 := BY.out.cell 0; have y1 := BY.out.cell 1; have y2 := BY.out.cell 2; have y3 := BY.out.cell 3; have y4 := BY.out.cell 4; have y5 := BY.out.cell 5; have y6 := BY.out.cell 6; have y7 := BY.out.cell 7; have y8 := BY.out.cell 8; clear o RC)
      | (go_at_call 26; (with_reducible refine (SM.out _ OX.out).mono ?_); rintro e v5 ⟨rfl, o⟩; have OX := hide (OX.out.trans0 o); have B1 := hide (B1.out.only o (by simp)); have BY := hide (BY.out.only o (by simp)); clear x0 x1 x2 x3 x4 x5 x6 x7 x8 y0 y1 y2 y3 y4 y5 y6 y7 y8; have x0 := B1.out.cell 0; have x1 := B1.out.cell 1; have x2 := B1.out.cell 2; have x3 := B1.out.cell 3; have x4 := B1.out.cell 4; have x5 := B1.out.cell 5; have x6 := B1.out.cell 6; have x7 := B1.out.cell 7; have x8 := B1.out.cell 8; have y0 := BY.out.cell 0; have y1 := BY.out.cell 1; have y2 := BY.out.cell 2; have y3 := BY.out.cell 3; have y4 := BY.out.cell 4; have y5 := BY.out.cell 5; have y6 := BY.out.cell 6; have y7 := BY.out.cell 7; have y8 := BY.out.cell 8; clear o SM)
      | (go_at_call 12; (with_reducible refine (num_any _ _).mono ?_); rintro e v2 ⟨rfl, hw⟩; obtain rfl := hw.symm; clear hw)
      | (go_at_call 27; (with_reducible refine (LN.out _ OX.out).mono ?_); rintro e v6 ⟨⟨LA, lc, rfl, hq⟩, o⟩; have QL := hide hq; have OX := hide (OX.out.trans0 o); have B1 := hide (B1.out.only o (by simp)); have BY := hide (BY.out.only o (by simp)); clear x0 x1 x2 x3 x4 x5 x6 x7 x8 y0 y1 y2 y3 y4 y5 y6 y7 y8; have x0 := B1.out.cell 0; have x1 := B1.out.cell 1; have x2 := B1.out.cell 2; have x3 := B1.out.cell 3; have x4 := B1.out.cell 4; have x5 := B1.out.cell 5; have x6 := B1.out.cell 6; have x7 := B1.out.cell 7; have x8 := B1.out.cell 8; have y0 := BY.out.cell 0; have y1 := BY.out.cell 1; have y2 := BY.out.cell 2; have y3 := BY.out.cell 3; have y4 := BY.out.cell 4; have y5 := BY.out.cell 5; have y6 := BY.out.cell 6; have y7 := BY.out.cell 7; have y8 := BY.out.cell 8; clear o LN hq))
    obtain ⟨U, hU⟩ : ∃ W, v6 = W := ⟨_, rfl⟩
    rw [hU] at QL OX B1 BY x0 x1 x2 x3 x4 x5 x6 x7 x8 y0 y1 y2 y3 y4 y5 y6 y7 y8 ⊢
    clear hU x0 x1 x2 x3 x4 x5 x6 x7 x8 y0 y1 y2 y3 y4 y5 y6 y7 y8
    have hjl := HJL.out
    have hll := HLL.out
    go_loopw [12, 14] (fun v12 v14 wr => ∃ q : Nat, q ≤ (linesL J).length ∧ v12 = .string (bs (joinT ((linesL J).take q))) ∧ v14 = .int .i64 q ∧ Hid (Only [] U wr)) (fun _ v14 _ => (linesL J).length - (intOf v14).toNat)
    case atStart => exact ⟨0, by omega, rfl, rfl, hide (Only.refl _ _)⟩
    case round =>
      obtain ⟨q, hq, rfl, rfl, hO⟩ := hrel
      by_cases hqn : q < (linesL J).length
      · obtain ⟨x, hx⟩ : ∃ x, (linesL J)[q]? = some x := ⟨_, List.getElem?_eq_getElem hqn⟩
        obtain ⟨g, rfl, h1, _⟩ := own_cell QL.out (by rw [List.length_map]; omega)
        have cq := hO.out.keep0 ((h1 q (by rw [List.length_map]; omega)).trans (show (Strs ((linesL J).map bs))[q]? = some (.string (bs x)) by simp [Strs, hx]))
        have j0 : (0 : Int) ≤ (q : Int) := by omega
        have j1 : (q : Int) < ((linesL J).length : Int) := by omega
        have htk : joinT ((linesL J).take (q + 1)) = joinT ((linesL J).take q) ++ x ++ [10] := by rw [List.take_add_one, hx, joinT_append]; simp [joinT]
        have hl1 := joinT_take (linesL J) (q + 1)
        rw [linesL_join, htk, List.length_append, List.length_append, List.length_cons, List.length_nil] at hl1
        have k1 : bs (joinT ((linesL J).take q)) ++ bs x = bs (joinT ((linesL J).take q) ++ x) := bs_cat _ _
        have k2 : bs (joinT ((linesL J).take q) ++ x) ++ (⟨#[10]⟩ : ByteArray) = bs (joinT ((linesL J).take (q + 1))) := by rw [htk]; exact bs_cat _ [10]
        have z1 : ¬ 9223372036854775807 < (bs (joinT ((linesL J).take q))).size + (bs x).size := by rw [bs_size, bs_size]; omega
        have z2 : ¬ 9223372036854775807 < (bs (joinT ((linesL J).take q) ++ x)).size + (⟨#[10]⟩ : ByteArray).size := by rw [bs_size, show (⟨#[10]⟩ : ByteArray).size = 1 from rfl, List.length_append]; omega
        obtain ⟨s0, hs0⟩ : ∃ s, bs (joinT ((linesL J).take q)) = s := ⟨_, rfl⟩
        obtain ⟨s1, hs1⟩ : ∃ s, bs x = s := ⟨_, rfl⟩
        obtain ⟨s2, hs2⟩ : ∃ s, bs (joinT ((linesL J).take q) ++ x) = s := ⟨_, rfl⟩
        obtain ⟨s3, hs3⟩ : ∃ s, bs (joinT ((linesL J).take (q + 1))) = s := ⟨_, rfl⟩
        rw [hs0] at k1 z1 ⊢
        rw [hs1] at k1 z1 cq
        rw [hs2] at k1 k2 z2
        rw [hs3] at k2
        have HS3 := hide hs3
        clear hx h1 htk hl1 hs0 hs1 hs2 hs3
        go_wp2_with fail
        go_roundw
        case rel => exact ⟨q + 1, by omega, by rw [HS3.out], by go_num, hO⟩
        case measure => simp [intOf]; omega
      · obtain hqe : q = (linesL J).length := by omega
        rw [hqe, List.take_length, linesL_join, HSJ.out]
        have bq : (sJ.toList == sJ.toList) = true := by simp
        have OX := hide (OX.out.trans0 hO.out)
        have B1 := hide (B1.out.only hO.out (by simp))
        have x0 := B1.out.cell 0; have x1 := B1.out.cell 1; have x2 := B1.out.cell 2; have x3 := B1.out.cell 3; have x4 := B1.out.cell 4; have x5 := B1.out.cell 5; have x6 := B1.out.cell 6; have x7 := B1.out.cell 7; have x8 := B1.out.cell 8
        clear hqe hqn hq hO hjl hll QL
        have bt : (sT.toList == sT.toList) = true := by simp
        go_wp2_with (first
          | (go_at_call 28; (with_reducible refine (RT.out _ OX.out).mono ?_); rintro e v7 ⟨rfl, o⟩; have OX := hide (OX.out.trans0 o); clear o RT x0 x1 x2 x3 x4 x5 x6 x7 x8)
          | (go_at_call 12; (with_reducible refine (num_any _ _).mono ?_); rintro e v2 ⟨rfl, hw⟩; obtain rfl := hw.symm; clear hw)
          | (go_at_call 7; (with_reducible refine (KN.out _ (OC.out.trans0 OX.out)).mono ?_); rintro e v1 ⟨rfl, o⟩; have OX := hide (OX.out.trans0 o); clear o))
        go_ret
        exact ⟨rfl, OC.out.trans0 OX.out⟩
  · go_ret
    exact ⟨rfl, OC.out⟩
set_option maxHeartbeats 16000000 in
theorem stexts_b2z (J : Jb) (A : Option Addr) (n c : Nat) (f : Nat → Ev) (w : World) (he : Env w) (hw4 : 4 ≤ w.heap.size) (hJ : JbAt w J) (hi : ImmOk J) (hE : EvAt w A n f) (hEl : EvLt A w.heap.size) (hn : n ≤ maxLen) (hpt : J.pn + J.tn ≤ 9000000000000000000) (hje : jobE J = 0) (hck : chkE J n f = (0, 2)) : Calls Tryz.prog 4 #[.agg (sc9 J A n c)] w fun e w' => e = .returned (.bool true) ∧ Only [] w w' := by
  have HCK := hide hck
  have HJE := hide hje
  have HJL := hide (show (jobT J).length ≤ 1200000 from by rw [show jobT J = acc2 J J.tn from rfl]; exact acc2_len (good_job hje hi) (Nat.le_refl _))
  have HLL := hide (linesL_len (good_job hje hi))
  obtain ⟨sJ, hsJ⟩ : ∃ s, bs (jobT J) = s := ⟨_, rfl⟩
  have HSJ := hide hsJ
  clear hsJ
  have KN := hide (fun W (o : Only [] w W) => sknown_any W (he.only o) (by have := o.size; omega))
  have MA := hide (fun W (o : Only [] w W) => muchx_any J A n c W (jb_only0 hJ o) hpt)
  have HJ := hide hJ
  have HEV := hide hE
  have HE := hide he
  have HEL := hide hEl
  have HI := hide hi
  have OC := hide ((Only.refl [] w).alloc (.cells (sc9 J A n c) 54))
  have B1 := hide (Blk.new w 54 (sc9 J A n c))
  unfold sc9 at B1 OC MA
  unfold sc9
  obtain ⟨X, hX⟩ : ∃ X, w.heap.size = X := ⟨_, rfl⟩
  rw [hX] at B1
  have x0 := B1.out.cell 0; have x1 := B1.out.cell 1; have x2 := B1.out.cell 2; have x3 := B1.out.cell 3; have x4 := B1.out.cell 4; have x5 := B1.out.cell 5; have x6 := B1.out.cell 6; have x7 := B1.out.cell 7; have x8 := B1.out.cell 8
  clear he hJ hi hE hEl
  clear hje hck
  go_enter Tryz.func4, Tryz.ntmps4
  go_wp2_with (first
    | (go_at_call 7; (with_reducible refine (KN.out _ OC.out).mono ?_); rintro e v1 ⟨rfl, o⟩; have OC := hide (OC.out.trans0 o); clear o)
    | (go_at_call 20; (with_reducible refine (MA.out _ OC.out).mono ?_); rintro e v3 ⟨⟨bA, rfl, hm⟩, o⟩; have HM := hide hm; have OC := hide (OC.out.trans0 o); have B1 := hide (B1.out.only o (by simp)); clear x0 x1 x2 x3 x4 x5 x6 x7 x8; have x0 := B1.out.cell 0; have x1 := B1.out.cell 1; have x2 := B1.out.cell 2; have x3 := B1.out.cell 3; have x4 := B1.out.cell 4; have x5 := B1.out.cell 5; have x6 := B1.out.cell 6; have x7 := B1.out.cell 7; have x8 := B1.out.cell 8; clear o MA hm; cases bA))
  · have hsm := HM.out (by simp)
    have HSM := hide hsm
    have CPY := hide (fun W (o : Only [] w W) => copy_any J A n c f W (jb_only0 HJ.out o) (HEV.out.only0 o) (by have := hsm.1.len; omega) (by have := hsm.1.len; omega) hsm.2 hsm.1.prog)
    unfold sc9 cpJ at CPY
    clear hsm HM
    go_wp2_with (go_at_call 21; (with_reducible refine (CPY.out _ OC.out).mono ?_); rintro e v4 ⟨⟨PA, pc, vs, TA, tc, EA, ec, rfl, hJ2, hE2, hL2⟩, o⟩; have oy := (Only.refl [] v4).alloc (.cells #[.int .i64 J.t, .int .i64 J.o, .int .i64 J.s, .int .i64 J.q, .int .i64 J.m, .int .i64 J.p, .slice PA J.pn pc, .slice TA J.tn tc, .slice EA n ec] 54); have HJ2 := hide (jb_only0 hJ2 oy); have HE2 := hide (hE2.only0 oy); have HL2 := hide (show EvLt EA (v4.alloc (.cells #[.int .i64 J.t, .int .i64 J.o, .int .i64 J.s, .int .i64 J.q, .int .i64 J.m, .int .i64 J.p, .slice PA J.pn pc, .slice TA J.tn tc, .slice EA n ec] 54)).heap.size from fun a ha => by have := hL2 a ha; have := oy.size; omega); have BY := hide (Blk.new v4 54 #[.int .i64 J.t, .int .i64 J.o, .int .i64 J.s, .int .i64 J.q, .int .i64 J.m, .int .i64 J.p, .slice PA J.pn pc, .slice TA J.tn tc, .slice EA n ec]); have oz := o.trans0 oy; have OC := hide (OC.out.trans0 oz); have B1 := hide (B1.out.only oz (by simp)); clear x0 x1 x2 x3 x4 x5 x6 x7 x8; have x0 := B1.out.cell 0; have x1 := B1.out.cell 1; have x2 := B1.out.cell 2; have x3 := B1.out.cell 3; have x4 := B1.out.cell 4; have x5 := B1.out.cell 5; have x6 := B1.out.cell 6; have x7 := B1.out.cell 7; have x8 := B1.out.cell 8; clear o oy oz hJ2 hE2 hL2 CPY)
    obtain ⟨V, hV⟩ : ∃ W, v4.alloc (.cells #[.int .i64 J.t, .int .i64 J.o, .int .i64 J.s, .int .i64 J.q, .int .i64 J.m, .int .i64 J.p, .slice PA J.pn pc, .slice TA J.tn tc, .slice EA n ec] 54) = W := ⟨_, rfl⟩
    obtain ⟨Y, hY⟩ : ∃ y, v4.heap.size = y := ⟨_, rfl⟩
    rw [hV] at HJ2 HE2 HL2 BY OC B1 x0 x1 x2 x3 x4 x5 x6 x7 x8 ⊢
    rw [hY] at BY ⊢
    have y0 := BY.out.cell 0; have y1 := BY.out.cell 1; have y2 := BY.out.cell 2; have y3 := BY.out.cell 3; have y4 := BY.out.cell 4; have y5 := BY.out.cell 5; have y6 := BY.out.cell 6; have y7 := BY.out.cell 7; have y8 := BY.out.cell 8
    have OX := hide (Only.refl [] V)
    have HJ2 : Hid (JbAt V (cpJ J PA pc vs TA tc)) := HJ2
    have HE2 := HE2
    have CK := hide (fun W (o : Only [] V W) => (show Calls Tryz.prog 22 #[.agg #[.int .i64 J.t, .int .i64 J.o, .int .i64 J.s, .int .i64 J.q, .int .i64 J.m, .int .i64 J.p, .slice PA J.pn pc, .slice TA J.tn tc, .slice EA n ec]] W fun e w' => e = .returned (.tuple #[.int .i64 (0 : Int), .int .i64 (2 : Int)]) ∧ Only [] W w' from by
      have h := scheck_any (cpJ J PA pc vs TA tc) EA n ec f W (jb_only0 HJ2.out o) (HE2.out.only0 o) hn
      rw [chkE_cp, HCK.out] at h
      exact h))
    have RC := hide (fun W (o : Only [] V W) => (show Calls Tryz.prog 25 #[.agg #[.int .i64 J.t, .int .i64 J.o, .int .i64 J.s, .int .i64 J.q, .int .i64 J.m, .int .i64 J.p, .slice J.pA J.pn J.pc, .slice J.tA J.tn J.tc, .slice A n c]] W fun e w' => e = .returned (.tuple #[.int .i64 (0 : Int), .int .i64 (2 : Int)]) ∧ Only [] W w' from by
      have h := rscheck_any J A n c f W (jb_only0 HJ.out (OC.out.trans0 o)) (HEV.out.only0 (OC.out.trans0 o)) hn
      rw [HCK.out] at h
      exact h))
    have SM := hide (fun W (o : Only [] V W) => (show Calls Tryz.prog 26 #[.agg #[.int .i64 J.t, .int .i64 J.o, .int .i64 J.s, .int .i64 J.q, .int .i64 J.m, .int .i64 J.p, .slice PA J.pn pc, .slice TA J.tn tc, .slice EA n ec], .agg #[.int .i64 J.t, .int .i64 J.o, .int .i64 J.s, .int .i64 J.q, .int .i64 J.m, .int .i64 J.p, .slice J.pA J.pn J.pc, .slice J.tA J.tn J.tc, .slice A n c]] W fun e w' => e = .returned (.bool true) ∧ Only [] W w' from by
      have h := rsame26_any (cpJ J PA pc vs TA tc) EA n ec f J A n c f W (jb_only0 HJ2.out o) (jb_only0 HJ.out (OC.out.trans0 o)) (HE2.out.only0 o) (HEV.out.only0 (OC.out.trans0 o)) hn
      rw [show (sjB (cpJ J PA pc vs TA tc) J && esB n n f f) = true from rsB_cp J PA pc vs TA tc n f] at h
      exact h))
    have TX := hide (fun W (o : Only [] V W) => (show Calls Tryz.prog 23 #[.agg #[.int .i64 J.t, .int .i64 J.o, .int .i64 J.s, .int .i64 J.q, .int .i64 J.m, .int .i64 J.p, .slice PA J.pn pc, .slice TA J.tn tc, .slice EA n ec]] W fun e w' => e = .returned (.tuple #[.string ⟨#[]⟩, .int .i64 (2 : Int)]) ∧ Only [] W w' from by
      have h := stext_bad (cpJ J PA pc vs TA tc) EA n ec f W (jb_only0 HJ2.out o) (HE2.out.only0 o) hn (by rw [chkE_cp, HCK.out]; show ((2 : Int) : Int) ≠ 0; decide)
      rw [chkE_cp, HCK.out] at h
      exact h))
    have JB := hide (fun W (o : Only [] V W) => (show Calls Tryz.prog 24 #[.agg #[.int .i64 J.t, .int .i64 J.o, .int .i64 J.s, .int .i64 J.q, .int .i64 J.m, .int .i64 J.p, .slice PA J.pn pc, .slice TA J.tn tc]] W fun e w' => e = .returned (.tuple #[.string sJ, .int .i64 0]) ∧ Only [] W w' from by
      have h := sjob_good (cpJ J PA pc vs TA tc) W (HE.out.only (OC.out.trans0 o)) (jb_only0 HJ2.out o) (good_job (by rw [jobE_cp, HJE.out]) (imm_cp HI.out PA pc vs TA tc))
      rw [jobT_cp, HSJ.out] at h
      exact h))
    have LN := hide (fun W (o : Only [] V W) => (show Calls Tryz.prog 27 #[.agg #[.int .i64 J.t, .int .i64 J.o, .int .i64 J.s, .int .i64 J.q, .int .i64 J.m, .int .i64 J.p, .slice J.pA J.pn J.pc, .slice J.tA J.tn J.tc]] W fun e w' => (∃ A c, e = .returned (.slice A (linesL J).length c) ∧ Qs w' (W.heap.size + 1) A c ((linesL J).map bs)) ∧ Only [] W w' from rlines_any J W (HE.out.only (OC.out.trans0 o)) (jb_only0 HJ.out (OC.out.trans0 o)) (good_job HJE.out HI.out)))
    clear hV hY
    go_wp2_with (first
      | (go_at_call 22; (with_reducible refine (CK.out _ OX.out).mono ?_); rintro e v5 ⟨rfl, o⟩; have OX := hide (OX.out.trans0 o); have B1 := hide (B1.out.only o (by simp)); have BY := hide (BY.out.only o (by simp)); clear x0 x1 x2 x3 x4 x5 x6 x7 x8 y0 y1 y2 y3 y4 y5 y6 y7 y8; have x0 := B1.out.cell 0; have x1 := B1.out.cell 1; have x2 := B1.out.cell 2; have x3 := B1.out.cell 3; have x4 := B1.out.cell 4; have x5 := B1.out.cell 5; have x6 := B1.out.cell 6; have x7 := B1.out.cell 7; have x8 := B1.out.cell 8; have y0 := BY.out.cell 0; have y1 := BY.out.cell 1; have y2 := BY.out.cell 2; have y3 := BY.out.cell 3; have y4 := BY.out.cell 4; have y5 := BY.out.cell 5; have y6 := BY.out.cell 6; have y7 := BY.out.cell 7; have y8 := BY.out.cell 8; clear o CK)
      | (go_at_call 23; (with_reducible refine (TX.out _ OX.out).mono ?_); rintro e v5 ⟨rfl, o⟩; have OX := hide (OX.out.trans0 o); have B1 := hide (B1.out.only o (by simp)); have BY := hide (BY.out.only o (by simp)); clear x0 x1 x2 x3 x4 x5 x6 x7 x8 y0 y1 y2 y3 y4 y5 y6 y7 y8; have x0 := B1.out.cell 0; have x1 := B1.out.cell 1; have x2 := B1.out.cell 2; have x3 := B1.out.cell 3; have x4 := B1.out.cell 4; have x5 := B1.out.cell 5; have x6 := B1.out.cell 6; have x7 := B1.out.cell 7; have x8 := B1.out.cell 8; have y0 := BY.out.cell 0; have y1 := BY.out.cell 1; have y2 := BY.out.cell 2; have y3 := BY.out.cell 3; have y4 := BY.out.cell 4; have y5 := BY.out.cell 5; have y6 := BY.out.cell 6; have y7 := BY.out.cell 7; have y8 := BY.out.cell 8; clear o TX)
      | (go_at_call 24; (with_reducible refine (JB.out _ OX.out).mono ?_); rintro e v5 ⟨rfl, o⟩; have OX := hide (OX.out.trans0 o); have B1 := hide (B1.out.only o (by simp)); have BY := hide (BY.out.only o (by simp)); clear x0 x1 x2 x3 x4 x5 x6 x7 x8 y0 y1 y2 y3 y4 y5 y6 y7 y8; have x0 := B1.out.cell 0; have x1 := B1.out.cell 1; have x2 := B1.out.cell 2; have x3 := B1.out.cell 3; have x4 := B1.out.cell 4; have x5 := B1.out.cell 5; have x6 := B1.out.cell 6; have x7 := B1.out.cell 7; have x8 := B1.out.cell 8; have y0 := BY.out.cell 0; have y1 := BY.out.cell 1; have y2 := BY.out.cell 2; have y3 := BY.out.cell 3; have y4 := BY.out.cell 4; have y5 := BY.out.cell 5; have y6 := BY.out.cell 6; have y7 := BY.out.cell 7; have y8 := BY.out.cell 8; clear o JB)
      | (go_at_call 25; (with_reducible refine (RC.out _ OX.out).mono ?_); rintro e v5 ⟨rfl, o⟩; have OX := hide (OX.out.trans0 o); have B1 := hide (B1.out.only o (by simp)); have BY := hide (BY.out.only o (by simp)); clear x0 x1 x2 x3 x4 x5 x6 x7 x8 y0 y1 y2 y3 y4 y5 y6 y7 y8; have x0 := B1.out.cell 0; have x1 := B1.out.cell 1; have x2 := B1.out.cell 2; have x3 := B1.out.cell 3; have x4 := B1.out.cell 4; have x5 := B1.out.cell 5; have x6 := B1.out.cell 6; have x7 := B1.out.cell 7; have x8 := B1.out.cell 8; have y0 := BY.out.cell 0; have y1 := BY.out.cell 1; have y2 := BY.out.cell 2; have y3 := BY.out.cell 3; have y4 := BY.out.cell 4; have y5 := BY.out.cell 5; have y6 := BY.out.cell 6; have y7 := BY.out.cell 7; have y8 := BY.out.cell 8; clear o RC)
      | (go_at_call 26; (with_reducible refine (SM.out _ OX.out).mono ?_); rintro e v5 ⟨rfl, o⟩; have OX := hide (OX.out.trans0 o); have B1 := hide (B1.out.only o (by simp)); have BY := hide (BY.out.only o (by simp)); clear x0 x1 x2 x3 x4 x5 x6 x7 x8 y0 y1 y2 y3 y4 y5 y6 y7 y8; have x0 := B1.out.cell 0; have x1 := B1.out.cell 1; have x2 := B1.out.cell 2; have x3 := B1.out.cell 3; have x4 := B1.out.cell 4; have x5 := B1.out.cell 5; have x6 := B1.out.cell 6; have x7 := B1.out.cell 7; have x8 := B1.out.cell 8; have y0 := BY.out.cell 0; have y1 := BY.out.cell 1; have y2 := BY.out.cell 2; have y3 := BY.out.cell 3; have y4 := BY.out.cell 4; have y5 := BY.out.cell 5; have y6 := BY.out.cell 6; have y7 := BY.out.cell 7; have y8 := BY.out.cell 8; clear o SM)
      | (go_at_call 12; (with_reducible refine (num_any _ _).mono ?_); rintro e v2 ⟨rfl, hw⟩; obtain rfl := hw.symm; clear hw)
      | (go_at_call 27; (with_reducible refine (LN.out _ OX.out).mono ?_); rintro e v6 ⟨⟨LA, lc, rfl, hq⟩, o⟩; have QL := hide hq; have OX := hide (OX.out.trans0 o); have B1 := hide (B1.out.only o (by simp)); have BY := hide (BY.out.only o (by simp)); clear x0 x1 x2 x3 x4 x5 x6 x7 x8 y0 y1 y2 y3 y4 y5 y6 y7 y8; have x0 := B1.out.cell 0; have x1 := B1.out.cell 1; have x2 := B1.out.cell 2; have x3 := B1.out.cell 3; have x4 := B1.out.cell 4; have x5 := B1.out.cell 5; have x6 := B1.out.cell 6; have x7 := B1.out.cell 7; have x8 := B1.out.cell 8; have y0 := BY.out.cell 0; have y1 := BY.out.cell 1; have y2 := BY.out.cell 2; have y3 := BY.out.cell 3; have y4 := BY.out.cell 4; have y5 := BY.out.cell 5; have y6 := BY.out.cell 6; have y7 := BY.out.cell 7; have y8 := BY.out.cell 8; clear o LN hq))
    obtain ⟨U, hU⟩ : ∃ W, v6 = W := ⟨_, rfl⟩
    rw [hU] at QL OX B1 BY x0 x1 x2 x3 x4 x5 x6 x7 x8 y0 y1 y2 y3 y4 y5 y6 y7 y8 ⊢
    clear hU x0 x1 x2 x3 x4 x5 x6 x7 x8 y0 y1 y2 y3 y4 y5 y6 y7 y8
    have hjl := HJL.out
    have hll := HLL.out
    go_loopw [12, 14] (fun v12 v14 wr => ∃ q : Nat, q ≤ (linesL J).length ∧ v12 = .string (bs (joinT ((linesL J).take q))) ∧ v14 = .int .i64 q ∧ Hid (Only [] U wr)) (fun _ v14 _ => (linesL J).length - (intOf v14).toNat)
    case atStart => exact ⟨0, by omega, rfl, rfl, hide (Only.refl _ _)⟩
    case round =>
      obtain ⟨q, hq, rfl, rfl, hO⟩ := hrel
      by_cases hqn : q < (linesL J).length
      · obtain ⟨x, hx⟩ : ∃ x, (linesL J)[q]? = some x := ⟨_, List.getElem?_eq_getElem hqn⟩
        obtain ⟨g, rfl, h1, _⟩ := own_cell QL.out (by rw [List.length_map]; omega)
        have cq := hO.out.keep0 ((h1 q (by rw [List.length_map]; omega)).trans (show (Strs ((linesL J).map bs))[q]? = some (.string (bs x)) by simp [Strs, hx]))
        have j0 : (0 : Int) ≤ (q : Int) := by omega
        have j1 : (q : Int) < ((linesL J).length : Int) := by omega
        have htk : joinT ((linesL J).take (q + 1)) = joinT ((linesL J).take q) ++ x ++ [10] := by rw [List.take_add_one, hx, joinT_append]; simp [joinT]
        have hl1 := joinT_take (linesL J) (q + 1)
        rw [linesL_join, htk, List.length_append, List.length_append, List.length_cons, List.length_nil] at hl1
        have k1 : bs (joinT ((linesL J).take q)) ++ bs x = bs (joinT ((linesL J).take q) ++ x) := bs_cat _ _
        have k2 : bs (joinT ((linesL J).take q) ++ x) ++ (⟨#[10]⟩ : ByteArray) = bs (joinT ((linesL J).take (q + 1))) := by rw [htk]; exact bs_cat _ [10]
        have z1 : ¬ 9223372036854775807 < (bs (joinT ((linesL J).take q))).size + (bs x).size := by rw [bs_size, bs_size]; omega
        have z2 : ¬ 9223372036854775807 < (bs (joinT ((linesL J).take q) ++ x)).size + (⟨#[10]⟩ : ByteArray).size := by rw [bs_size, show (⟨#[10]⟩ : ByteArray).size = 1 from rfl, List.length_append]; omega
        obtain ⟨s0, hs0⟩ : ∃ s, bs (joinT ((linesL J).take q)) = s := ⟨_, rfl⟩
        obtain ⟨s1, hs1⟩ : ∃ s, bs x = s := ⟨_, rfl⟩
        obtain ⟨s2, hs2⟩ : ∃ s, bs (joinT ((linesL J).take q) ++ x) = s := ⟨_, rfl⟩
        obtain ⟨s3, hs3⟩ : ∃ s, bs (joinT ((linesL J).take (q + 1))) = s := ⟨_, rfl⟩
        rw [hs0] at k1 z1 ⊢
        rw [hs1] at k1 z1 cq
        rw [hs2] at k1 k2 z2
        rw [hs3] at k2
        have HS3 := hide hs3
        clear hx h1 htk hl1 hs0 hs1 hs2 hs3
        go_wp2_with fail
        go_roundw
        case rel => exact ⟨q + 1, by omega, by rw [HS3.out], by go_num, hO⟩
        case measure => simp [intOf]; omega
      · obtain hqe : q = (linesL J).length := by omega
        rw [hqe, List.take_length, linesL_join, HSJ.out]
        have bq : (sJ.toList == sJ.toList) = true := by simp
        have OX := hide (OX.out.trans0 hO.out)
        have B1 := hide (B1.out.only hO.out (by simp))
        have x0 := B1.out.cell 0; have x1 := B1.out.cell 1; have x2 := B1.out.cell 2; have x3 := B1.out.cell 3; have x4 := B1.out.cell 4; have x5 := B1.out.cell 5; have x6 := B1.out.cell 6; have x7 := B1.out.cell 7; have x8 := B1.out.cell 8
        clear hqe hqn hq hO hjl hll QL
        go_wp2_with (first
          | (go_at_call 12; (with_reducible refine (num_any _ _).mono ?_); rintro e v2 ⟨rfl, hw⟩; obtain rfl := hw.symm; clear hw)
          | (go_at_call 7; (with_reducible refine (KN.out _ (OC.out.trans0 OX.out)).mono ?_); rintro e v1 ⟨rfl, o⟩; have OX := hide (OX.out.trans0 o); clear o))
        go_ret
        exact ⟨rfl, OC.out.trans0 OX.out⟩
  · go_ret
    exact ⟨rfl, OC.out⟩
set_option maxHeartbeats 16000000 in
theorem stexts_b2n (J : Jb) (A : Option Addr) (n c : Nat) (f : Nat → Ev) (w : World) (he : Env w) (hw4 : 4 ≤ w.heap.size) (hJ : JbAt w J) (hi : ImmOk J) (hE : EvAt w A n f) (hEl : EvLt A w.heap.size) (hn : n ≤ maxLen) (hpt : J.pn + J.tn ≤ 9000000000000000000) (i : Int) (hi0 : i ≠ 0) (hje : jobE J = 0) (hck : chkE J n f = (i, 2)) : Calls Tryz.prog 4 #[.agg (sc9 J A n c)] w fun e w' => e = .returned (.bool true) ∧ Only [] w w' := by
  have HCK := hide hck
  have HJE := hide hje
  have HJL := hide (show (jobT J).length ≤ 1200000 from by rw [show jobT J = acc2 J J.tn from rfl]; exact acc2_len (good_job hje hi) (Nat.le_refl _))
  have HLL := hide (linesL_len (good_job hje hi))
  obtain ⟨sJ, hsJ⟩ : ∃ s, bs (jobT J) = s := ⟨_, rfl⟩
  have HSJ := hide hsJ
  clear hsJ
  have KN := hide (fun W (o : Only [] w W) => sknown_any W (he.only o) (by have := o.size; omega))
  have MA := hide (fun W (o : Only [] w W) => muchx_any J A n c W (jb_only0 hJ o) hpt)
  have HJ := hide hJ
  have HEV := hide hE
  have HE := hide he
  have HEL := hide hEl
  have HI := hide hi
  have OC := hide ((Only.refl [] w).alloc (.cells (sc9 J A n c) 54))
  have B1 := hide (Blk.new w 54 (sc9 J A n c))
  unfold sc9 at B1 OC MA
  unfold sc9
  obtain ⟨X, hX⟩ : ∃ X, w.heap.size = X := ⟨_, rfl⟩
  rw [hX] at B1
  have x0 := B1.out.cell 0; have x1 := B1.out.cell 1; have x2 := B1.out.cell 2; have x3 := B1.out.cell 3; have x4 := B1.out.cell 4; have x5 := B1.out.cell 5; have x6 := B1.out.cell 6; have x7 := B1.out.cell 7; have x8 := B1.out.cell 8
  clear he hJ hi hE hEl
  clear hje hck
  have q0 : (i == 0) = false := by simpa using hi0
  have q1 : (i != i) = false := by simp
  clear hi0
  go_enter Tryz.func4, Tryz.ntmps4
  go_wp2_with (first
    | (go_at_call 7; (with_reducible refine (KN.out _ OC.out).mono ?_); rintro e v1 ⟨rfl, o⟩; have OC := hide (OC.out.trans0 o); clear o)
    | (go_at_call 20; (with_reducible refine (MA.out _ OC.out).mono ?_); rintro e v3 ⟨⟨bA, rfl, hm⟩, o⟩; have HM := hide hm; have OC := hide (OC.out.trans0 o); have B1 := hide (B1.out.only o (by simp)); clear x0 x1 x2 x3 x4 x5 x6 x7 x8; have x0 := B1.out.cell 0; have x1 := B1.out.cell 1; have x2 := B1.out.cell 2; have x3 := B1.out.cell 3; have x4 := B1.out.cell 4; have x5 := B1.out.cell 5; have x6 := B1.out.cell 6; have x7 := B1.out.cell 7; have x8 := B1.out.cell 8; clear o MA hm; cases bA))
  · have hsm := HM.out (by simp)
    have HSM := hide hsm
    have CPY := hide (fun W (o : Only [] w W) => copy_any J A n c f W (jb_only0 HJ.out o) (HEV.out.only0 o) (by have := hsm.1.len; omega) (by have := hsm.1.len; omega) hsm.2 hsm.1.prog)
    unfold sc9 cpJ at CPY
    clear hsm HM
    go_wp2_with (go_at_call 21; (with_reducible refine (CPY.out _ OC.out).mono ?_); rintro e v4 ⟨⟨PA, pc, vs, TA, tc, EA, ec, rfl, hJ2, hE2, hL2⟩, o⟩; have oy := (Only.refl [] v4).alloc (.cells #[.int .i64 J.t, .int .i64 J.o, .int .i64 J.s, .int .i64 J.q, .int .i64 J.m, .int .i64 J.p, .slice PA J.pn pc, .slice TA J.tn tc, .slice EA n ec] 54); have HJ2 := hide (jb_only0 hJ2 oy); have HE2 := hide (hE2.only0 oy); have HL2 := hide (show EvLt EA (v4.alloc (.cells #[.int .i64 J.t, .int .i64 J.o, .int .i64 J.s, .int .i64 J.q, .int .i64 J.m, .int .i64 J.p, .slice PA J.pn pc, .slice TA J.tn tc, .slice EA n ec] 54)).heap.size from fun a ha => by have := hL2 a ha; have := oy.size; omega); have BY := hide (Blk.new v4 54 #[.int .i64 J.t, .int .i64 J.o, .int .i64 J.s, .int .i64 J.q, .int .i64 J.m, .int .i64 J.p, .slice PA J.pn pc, .slice TA J.tn tc, .slice EA n ec]); have oz := o.trans0 oy; have OC := hide (OC.out.trans0 oz); have B1 := hide (B1.out.only oz (by simp)); clear x0 x1 x2 x3 x4 x5 x6 x7 x8; have x0 := B1.out.cell 0; have x1 := B1.out.cell 1; have x2 := B1.out.cell 2; have x3 := B1.out.cell 3; have x4 := B1.out.cell 4; have x5 := B1.out.cell 5; have x6 := B1.out.cell 6; have x7 := B1.out.cell 7; have x8 := B1.out.cell 8; clear o oy oz hJ2 hE2 hL2 CPY)
    obtain ⟨V, hV⟩ : ∃ W, v4.alloc (.cells #[.int .i64 J.t, .int .i64 J.o, .int .i64 J.s, .int .i64 J.q, .int .i64 J.m, .int .i64 J.p, .slice PA J.pn pc, .slice TA J.tn tc, .slice EA n ec] 54) = W := ⟨_, rfl⟩
    obtain ⟨Y, hY⟩ : ∃ y, v4.heap.size = y := ⟨_, rfl⟩
    rw [hV] at HJ2 HE2 HL2 BY OC B1 x0 x1 x2 x3 x4 x5 x6 x7 x8 ⊢
    rw [hY] at BY ⊢
    have y0 := BY.out.cell 0; have y1 := BY.out.cell 1; have y2 := BY.out.cell 2; have y3 := BY.out.cell 3; have y4 := BY.out.cell 4; have y5 := BY.out.cell 5; have y6 := BY.out.cell 6; have y7 := BY.out.cell 7; have y8 := BY.out.cell 8
    have OX := hide (Only.refl [] V)
    have HJ2 : Hid (JbAt V (cpJ J PA pc vs TA tc)) := HJ2
    have HE2 := HE2
    have CK := hide (fun W (o : Only [] V W) => (show Calls Tryz.prog 22 #[.agg #[.int .i64 J.t, .int .i64 J.o, .int .i64 J.s, .int .i64 J.q, .int .i64 J.m, .int .i64 J.p, .slice PA J.pn pc, .slice TA J.tn tc, .slice EA n ec]] W fun e w' => e = .returned (.tuple #[.int .i64 i, .int .i64 (2 : Int)]) ∧ Only [] W w' from by
      have h := scheck_any (cpJ J PA pc vs TA tc) EA n ec f W (jb_only0 HJ2.out o) (HE2.out.only0 o) hn
      rw [chkE_cp, HCK.out] at h
      exact h))
    have RC := hide (fun W (o : Only [] V W) => (show Calls Tryz.prog 25 #[.agg #[.int .i64 J.t, .int .i64 J.o, .int .i64 J.s, .int .i64 J.q, .int .i64 J.m, .int .i64 J.p, .slice J.pA J.pn J.pc, .slice J.tA J.tn J.tc, .slice A n c]] W fun e w' => e = .returned (.tuple #[.int .i64 i, .int .i64 (2 : Int)]) ∧ Only [] W w' from by
      have h := rscheck_any J A n c f W (jb_only0 HJ.out (OC.out.trans0 o)) (HEV.out.only0 (OC.out.trans0 o)) hn
      rw [HCK.out] at h
      exact h))
    have SM := hide (fun W (o : Only [] V W) => (show Calls Tryz.prog 26 #[.agg #[.int .i64 J.t, .int .i64 J.o, .int .i64 J.s, .int .i64 J.q, .int .i64 J.m, .int .i64 J.p, .slice PA J.pn pc, .slice TA J.tn tc, .slice EA n ec], .agg #[.int .i64 J.t, .int .i64 J.o, .int .i64 J.s, .int .i64 J.q, .int .i64 J.m, .int .i64 J.p, .slice J.pA J.pn J.pc, .slice J.tA J.tn J.tc, .slice A n c]] W fun e w' => e = .returned (.bool true) ∧ Only [] W w' from by
      have h := rsame26_any (cpJ J PA pc vs TA tc) EA n ec f J A n c f W (jb_only0 HJ2.out o) (jb_only0 HJ.out (OC.out.trans0 o)) (HE2.out.only0 o) (HEV.out.only0 (OC.out.trans0 o)) hn
      rw [show (sjB (cpJ J PA pc vs TA tc) J && esB n n f f) = true from rsB_cp J PA pc vs TA tc n f] at h
      exact h))
    have TX := hide (fun W (o : Only [] V W) => (show Calls Tryz.prog 23 #[.agg #[.int .i64 J.t, .int .i64 J.o, .int .i64 J.s, .int .i64 J.q, .int .i64 J.m, .int .i64 J.p, .slice PA J.pn pc, .slice TA J.tn tc, .slice EA n ec]] W fun e w' => e = .returned (.tuple #[.string ⟨#[]⟩, .int .i64 (2 : Int)]) ∧ Only [] W w' from by
      have h := stext_bad (cpJ J PA pc vs TA tc) EA n ec f W (jb_only0 HJ2.out o) (HE2.out.only0 o) hn (by rw [chkE_cp, HCK.out]; show ((2 : Int) : Int) ≠ 0; decide)
      rw [chkE_cp, HCK.out] at h
      exact h))
    have JB := hide (fun W (o : Only [] V W) => (show Calls Tryz.prog 24 #[.agg #[.int .i64 J.t, .int .i64 J.o, .int .i64 J.s, .int .i64 J.q, .int .i64 J.m, .int .i64 J.p, .slice PA J.pn pc, .slice TA J.tn tc]] W fun e w' => e = .returned (.tuple #[.string sJ, .int .i64 0]) ∧ Only [] W w' from by
      have h := sjob_good (cpJ J PA pc vs TA tc) W (HE.out.only (OC.out.trans0 o)) (jb_only0 HJ2.out o) (good_job (by rw [jobE_cp, HJE.out]) (imm_cp HI.out PA pc vs TA tc))
      rw [jobT_cp, HSJ.out] at h
      exact h))
    have LN := hide (fun W (o : Only [] V W) => (show Calls Tryz.prog 27 #[.agg #[.int .i64 J.t, .int .i64 J.o, .int .i64 J.s, .int .i64 J.q, .int .i64 J.m, .int .i64 J.p, .slice J.pA J.pn J.pc, .slice J.tA J.tn J.tc]] W fun e w' => (∃ A c, e = .returned (.slice A (linesL J).length c) ∧ Qs w' (W.heap.size + 1) A c ((linesL J).map bs)) ∧ Only [] W w' from rlines_any J W (HE.out.only (OC.out.trans0 o)) (jb_only0 HJ.out (OC.out.trans0 o)) (good_job HJE.out HI.out)))
    clear hV hY
    go_wp2_with (first
      | (go_at_call 22; (with_reducible refine (CK.out _ OX.out).mono ?_); rintro e v5 ⟨rfl, o⟩; have OX := hide (OX.out.trans0 o); have B1 := hide (B1.out.only o (by simp)); have BY := hide (BY.out.only o (by simp)); clear x0 x1 x2 x3 x4 x5 x6 x7 x8 y0 y1 y2 y3 y4 y5 y6 y7 y8; have x0 := B1.out.cell 0; have x1 := B1.out.cell 1; have x2 := B1.out.cell 2; have x3 := B1.out.cell 3; have x4 := B1.out.cell 4; have x5 := B1.out.cell 5; have x6 := B1.out.cell 6; have x7 := B1.out.cell 7; have x8 := B1.out.cell 8; have y0 := BY.out.cell 0; have y1 := BY.out.cell 1; have y2 := BY.out.cell 2; have y3 := BY.out.cell 3; have y4 := BY.out.cell 4; have y5 := BY.out.cell 5; have y6 := BY.out.cell 6; have y7 := BY.out.cell 7; have y8 := BY.out.cell 8; clear o CK)
      | (go_at_call 23; (with_reducible refine (TX.out _ OX.out).mono ?_); rintro e v5 ⟨rfl, o⟩; have OX := hide (OX.out.trans0 o); have B1 := hide (B1.out.only o (by simp)); have BY := hide (BY.out.only o (by simp)); clear x0 x1 x2 x3 x4 x5 x6 x7 x8 y0 y1 y2 y3 y4 y5 y6 y7 y8; have x0 := B1.out.cell 0; have x1 := B1.out.cell 1; have x2 := B1.out.cell 2; have x3 := B1.out.cell 3; have x4 := B1.out.cell 4; have x5 := B1.out.cell 5; have x6 := B1.out.cell 6; have x7 := B1.out.cell 7; have x8 := B1.out.cell 8; have y0 := BY.out.cell 0; have y1 := BY.out.cell 1; have y2 := BY.out.cell 2; have y3 := BY.out.cell 3; have y4 := BY.out.cell 4; have y5 := BY.out.cell 5; have y6 := BY.out.cell 6; have y7 := BY.out.cell 7; have y8 := BY.out.cell 8; clear o TX)
      | (go_at_call 24; (with_reducible refine (JB.out _ OX.out).mono ?_); rintro e v5 ⟨rfl, o⟩; have OX := hide (OX.out.trans0 o); have B1 := hide (B1.out.only o (by simp)); have BY := hide (BY.out.only o (by simp)); clear x0 x1 x2 x3 x4 x5 x6 x7 x8 y0 y1 y2 y3 y4 y5 y6 y7 y8; have x0 := B1.out.cell 0; have x1 := B1.out.cell 1; have x2 := B1.out.cell 2; have x3 := B1.out.cell 3; have x4 := B1.out.cell 4; have x5 := B1.out.cell 5; have x6 := B1.out.cell 6; have x7 := B1.out.cell 7; have x8 := B1.out.cell 8; have y0 := BY.out.cell 0; have y1 := BY.out.cell 1; have y2 := BY.out.cell 2; have y3 := BY.out.cell 3; have y4 := BY.out.cell 4; have y5 := BY.out.cell 5; have y6 := BY.out.cell 6; have y7 := BY.out.cell 7; have y8 := BY.out.cell 8; clear o JB)
      | (go_at_call 25; (with_reducible refine (RC.out _ OX.out).mono ?_); rintro e v5 ⟨rfl, o⟩; have OX := hide (OX.out.trans0 o); have B1 := hide (B1.out.only o (by simp)); have BY := hide (BY.out.only o (by simp)); clear x0 x1 x2 x3 x4 x5 x6 x7 x8 y0 y1 y2 y3 y4 y5 y6 y7 y8; have x0 := B1.out.cell 0; have x1 := B1.out.cell 1; have x2 := B1.out.cell 2; have x3 := B1.out.cell 3; have x4 := B1.out.cell 4; have x5 := B1.out.cell 5; have x6 := B1.out.cell 6; have x7 := B1.out.cell 7; have x8 := B1.out.cell 8; have y0 := BY.out.cell 0; have y1 := BY.out.cell 1; have y2 := BY.out.cell 2; have y3 := BY.out.cell 3; have y4 := BY.out.cell 4; have y5 := BY.out.cell 5; have y6 := BY.out.cell 6; have y7 := BY.out.cell 7; have y8 := BY.out.cell 8; clear o RC)
      | (go_at_call 26; (with_reducible refine (SM.out _ OX.out).mono ?_); rintro e v5 ⟨rfl, o⟩; have OX := hide (OX.out.trans0 o); have B1 := hide (B1.out.only o (by simp)); have BY := hide (BY.out.only o (by simp)); clear x0 x1 x2 x3 x4 x5 x6 x7 x8 y0 y1 y2 y3 y4 y5 y6 y7 y8; have x0 := B1.out.cell 0; have x1 := B1.out.cell 1; have x2 := B1.out.cell 2; have x3 := B1.out.cell 3; have x4 := B1.out.cell 4; have x5 := B1.out.cell 5; have x6 := B1.out.cell 6; have x7 := B1.out.cell 7; have x8 := B1.out.cell 8; have y0 := BY.out.cell 0; have y1 := BY.out.cell 1; have y2 := BY.out.cell 2; have y3 := BY.out.cell 3; have y4 := BY.out.cell 4; have y5 := BY.out.cell 5; have y6 := BY.out.cell 6; have y7 := BY.out.cell 7; have y8 := BY.out.cell 8; clear o SM)
      | (go_at_call 12; (with_reducible refine (num_any _ _).mono ?_); rintro e v2 ⟨rfl, hw⟩; obtain rfl := hw.symm; clear hw)
      | (go_at_call 27; (with_reducible refine (LN.out _ OX.out).mono ?_); rintro e v6 ⟨⟨LA, lc, rfl, hq⟩, o⟩; have QL := hide hq; have OX := hide (OX.out.trans0 o); have B1 := hide (B1.out.only o (by simp)); have BY := hide (BY.out.only o (by simp)); clear x0 x1 x2 x3 x4 x5 x6 x7 x8 y0 y1 y2 y3 y4 y5 y6 y7 y8; have x0 := B1.out.cell 0; have x1 := B1.out.cell 1; have x2 := B1.out.cell 2; have x3 := B1.out.cell 3; have x4 := B1.out.cell 4; have x5 := B1.out.cell 5; have x6 := B1.out.cell 6; have x7 := B1.out.cell 7; have x8 := B1.out.cell 8; have y0 := BY.out.cell 0; have y1 := BY.out.cell 1; have y2 := BY.out.cell 2; have y3 := BY.out.cell 3; have y4 := BY.out.cell 4; have y5 := BY.out.cell 5; have y6 := BY.out.cell 6; have y7 := BY.out.cell 7; have y8 := BY.out.cell 8; clear o LN hq))
    obtain ⟨U, hU⟩ : ∃ W, v6 = W := ⟨_, rfl⟩
    rw [hU] at QL OX B1 BY x0 x1 x2 x3 x4 x5 x6 x7 x8 y0 y1 y2 y3 y4 y5 y6 y7 y8 ⊢
    clear hU x0 x1 x2 x3 x4 x5 x6 x7 x8 y0 y1 y2 y3 y4 y5 y6 y7 y8
    have hjl := HJL.out
    have hll := HLL.out
    go_loopw [12, 14] (fun v12 v14 wr => ∃ q : Nat, q ≤ (linesL J).length ∧ v12 = .string (bs (joinT ((linesL J).take q))) ∧ v14 = .int .i64 q ∧ Hid (Only [] U wr)) (fun _ v14 _ => (linesL J).length - (intOf v14).toNat)
    case atStart => exact ⟨0, by omega, rfl, rfl, hide (Only.refl _ _)⟩
    case round =>
      obtain ⟨q, hq, rfl, rfl, hO⟩ := hrel
      by_cases hqn : q < (linesL J).length
      · obtain ⟨x, hx⟩ : ∃ x, (linesL J)[q]? = some x := ⟨_, List.getElem?_eq_getElem hqn⟩
        obtain ⟨g, rfl, h1, _⟩ := own_cell QL.out (by rw [List.length_map]; omega)
        have cq := hO.out.keep0 ((h1 q (by rw [List.length_map]; omega)).trans (show (Strs ((linesL J).map bs))[q]? = some (.string (bs x)) by simp [Strs, hx]))
        have j0 : (0 : Int) ≤ (q : Int) := by omega
        have j1 : (q : Int) < ((linesL J).length : Int) := by omega
        have htk : joinT ((linesL J).take (q + 1)) = joinT ((linesL J).take q) ++ x ++ [10] := by rw [List.take_add_one, hx, joinT_append]; simp [joinT]
        have hl1 := joinT_take (linesL J) (q + 1)
        rw [linesL_join, htk, List.length_append, List.length_append, List.length_cons, List.length_nil] at hl1
        have k1 : bs (joinT ((linesL J).take q)) ++ bs x = bs (joinT ((linesL J).take q) ++ x) := bs_cat _ _
        have k2 : bs (joinT ((linesL J).take q) ++ x) ++ (⟨#[10]⟩ : ByteArray) = bs (joinT ((linesL J).take (q + 1))) := by rw [htk]; exact bs_cat _ [10]
        have z1 : ¬ 9223372036854775807 < (bs (joinT ((linesL J).take q))).size + (bs x).size := by rw [bs_size, bs_size]; omega
        have z2 : ¬ 9223372036854775807 < (bs (joinT ((linesL J).take q) ++ x)).size + (⟨#[10]⟩ : ByteArray).size := by rw [bs_size, show (⟨#[10]⟩ : ByteArray).size = 1 from rfl, List.length_append]; omega
        obtain ⟨s0, hs0⟩ : ∃ s, bs (joinT ((linesL J).take q)) = s := ⟨_, rfl⟩
        obtain ⟨s1, hs1⟩ : ∃ s, bs x = s := ⟨_, rfl⟩
        obtain ⟨s2, hs2⟩ : ∃ s, bs (joinT ((linesL J).take q) ++ x) = s := ⟨_, rfl⟩
        obtain ⟨s3, hs3⟩ : ∃ s, bs (joinT ((linesL J).take (q + 1))) = s := ⟨_, rfl⟩
        rw [hs0] at k1 z1 ⊢
        rw [hs1] at k1 z1 cq
        rw [hs2] at k1 k2 z2
        rw [hs3] at k2
        have HS3 := hide hs3
        clear hx h1 htk hl1 hs0 hs1 hs2 hs3
        go_wp2_with fail
        go_roundw
        case rel => exact ⟨q + 1, by omega, by rw [HS3.out], by go_num, hO⟩
        case measure => simp [intOf]; omega
      · obtain hqe : q = (linesL J).length := by omega
        rw [hqe, List.take_length, linesL_join, HSJ.out]
        have bq : (sJ.toList == sJ.toList) = true := by simp
        have OX := hide (OX.out.trans0 hO.out)
        have B1 := hide (B1.out.only hO.out (by simp))
        have x0 := B1.out.cell 0; have x1 := B1.out.cell 1; have x2 := B1.out.cell 2; have x3 := B1.out.cell 3; have x4 := B1.out.cell 4; have x5 := B1.out.cell 5; have x6 := B1.out.cell 6; have x7 := B1.out.cell 7; have x8 := B1.out.cell 8
        clear hqe hqn hq hO hjl hll QL
        go_wp2_with (first
          | (go_at_call 12; (with_reducible refine (num_any _ _).mono ?_); rintro e v2 ⟨rfl, hw⟩; obtain rfl := hw.symm; clear hw)
          | (go_at_call 7; (with_reducible refine (KN.out _ (OC.out.trans0 OX.out)).mono ?_); rintro e v1 ⟨rfl, o⟩; have OX := hide (OX.out.trans0 o); clear o))
        go_ret
        exact ⟨rfl, OC.out.trans0 OX.out⟩
  · go_ret
    exact ⟨rfl, OC.out⟩
set_option maxHeartbeats 16000000 in
theorem stexts_b3 (J : Jb) (A : Option Addr) (n c : Nat) (f : Nat → Ev) (w : World) (he : Env w) (hw4 : 4 ≤ w.heap.size) (hJ : JbAt w J) (hi : ImmOk J) (hE : EvAt w A n f) (hEl : EvLt A w.heap.size) (hn : n ≤ maxLen) (hpt : J.pn + J.tn ≤ 9000000000000000000) (hje : jobE J = 0) (hck : chkE J n f = (0, 3)) : Calls Tryz.prog 4 #[.agg (sc9 J A n c)] w fun e w' => e = .returned (.bool true) ∧ Only [] w w' := by
  have HCK := hide hck
  have HJE := hide hje
  have HJL := hide (show (jobT J).length ≤ 1200000 from by rw [show jobT J = acc2 J J.tn from rfl]; exact acc2_len (good_job hje hi) (Nat.le_refl _))
  have HLL := hide (linesL_len (good_job hje hi))
  obtain ⟨sJ, hsJ⟩ : ∃ s, bs (jobT J) = s := ⟨_, rfl⟩
  have HSJ := hide hsJ
  clear hsJ
  have KN := hide (fun W (o : Only [] w W) => sknown_any W (he.only o) (by have := o.size; omega))
  have MA := hide (fun W (o : Only [] w W) => muchx_any J A n c W (jb_only0 hJ o) hpt)
  have HJ := hide hJ
  have HEV := hide hE
  have HE := hide he
  have HEL := hide hEl
  have HI := hide hi
  have OC := hide ((Only.refl [] w).alloc (.cells (sc9 J A n c) 54))
  have B1 := hide (Blk.new w 54 (sc9 J A n c))
  unfold sc9 at B1 OC MA
  unfold sc9
  obtain ⟨X, hX⟩ : ∃ X, w.heap.size = X := ⟨_, rfl⟩
  rw [hX] at B1
  have x0 := B1.out.cell 0; have x1 := B1.out.cell 1; have x2 := B1.out.cell 2; have x3 := B1.out.cell 3; have x4 := B1.out.cell 4; have x5 := B1.out.cell 5; have x6 := B1.out.cell 6; have x7 := B1.out.cell 7; have x8 := B1.out.cell 8
  clear he hJ hi hE hEl
  clear hje hck
  go_enter Tryz.func4, Tryz.ntmps4
  go_wp2_with (first
    | (go_at_call 7; (with_reducible refine (KN.out _ OC.out).mono ?_); rintro e v1 ⟨rfl, o⟩; have OC := hide (OC.out.trans0 o); clear o)
    | (go_at_call 20; (with_reducible refine (MA.out _ OC.out).mono ?_); rintro e v3 ⟨⟨bA, rfl, hm⟩, o⟩; have HM := hide hm; have OC := hide (OC.out.trans0 o); have B1 := hide (B1.out.only o (by simp)); clear x0 x1 x2 x3 x4 x5 x6 x7 x8; have x0 := B1.out.cell 0; have x1 := B1.out.cell 1; have x2 := B1.out.cell 2; have x3 := B1.out.cell 3; have x4 := B1.out.cell 4; have x5 := B1.out.cell 5; have x6 := B1.out.cell 6; have x7 := B1.out.cell 7; have x8 := B1.out.cell 8; clear o MA hm; cases bA))
  · have hsm := HM.out (by simp)
    have HSM := hide hsm
    have CPY := hide (fun W (o : Only [] w W) => copy_any J A n c f W (jb_only0 HJ.out o) (HEV.out.only0 o) (by have := hsm.1.len; omega) (by have := hsm.1.len; omega) hsm.2 hsm.1.prog)
    unfold sc9 cpJ at CPY
    clear hsm HM
    go_wp2_with (go_at_call 21; (with_reducible refine (CPY.out _ OC.out).mono ?_); rintro e v4 ⟨⟨PA, pc, vs, TA, tc, EA, ec, rfl, hJ2, hE2, hL2⟩, o⟩; have oy := (Only.refl [] v4).alloc (.cells #[.int .i64 J.t, .int .i64 J.o, .int .i64 J.s, .int .i64 J.q, .int .i64 J.m, .int .i64 J.p, .slice PA J.pn pc, .slice TA J.tn tc, .slice EA n ec] 54); have HJ2 := hide (jb_only0 hJ2 oy); have HE2 := hide (hE2.only0 oy); have HL2 := hide (show EvLt EA (v4.alloc (.cells #[.int .i64 J.t, .int .i64 J.o, .int .i64 J.s, .int .i64 J.q, .int .i64 J.m, .int .i64 J.p, .slice PA J.pn pc, .slice TA J.tn tc, .slice EA n ec] 54)).heap.size from fun a ha => by have := hL2 a ha; have := oy.size; omega); have BY := hide (Blk.new v4 54 #[.int .i64 J.t, .int .i64 J.o, .int .i64 J.s, .int .i64 J.q, .int .i64 J.m, .int .i64 J.p, .slice PA J.pn pc, .slice TA J.tn tc, .slice EA n ec]); have oz := o.trans0 oy; have OC := hide (OC.out.trans0 oz); have B1 := hide (B1.out.only oz (by simp)); clear x0 x1 x2 x3 x4 x5 x6 x7 x8; have x0 := B1.out.cell 0; have x1 := B1.out.cell 1; have x2 := B1.out.cell 2; have x3 := B1.out.cell 3; have x4 := B1.out.cell 4; have x5 := B1.out.cell 5; have x6 := B1.out.cell 6; have x7 := B1.out.cell 7; have x8 := B1.out.cell 8; clear o oy oz hJ2 hE2 hL2 CPY)
    obtain ⟨V, hV⟩ : ∃ W, v4.alloc (.cells #[.int .i64 J.t, .int .i64 J.o, .int .i64 J.s, .int .i64 J.q, .int .i64 J.m, .int .i64 J.p, .slice PA J.pn pc, .slice TA J.tn tc, .slice EA n ec] 54) = W := ⟨_, rfl⟩
    obtain ⟨Y, hY⟩ : ∃ y, v4.heap.size = y := ⟨_, rfl⟩
    rw [hV] at HJ2 HE2 HL2 BY OC B1 x0 x1 x2 x3 x4 x5 x6 x7 x8 ⊢
    rw [hY] at BY ⊢
    have y0 := BY.out.cell 0; have y1 := BY.out.cell 1; have y2 := BY.out.cell 2; have y3 := BY.out.cell 3; have y4 := BY.out.cell 4; have y5 := BY.out.cell 5; have y6 := BY.out.cell 6; have y7 := BY.out.cell 7; have y8 := BY.out.cell 8
    have OX := hide (Only.refl [] V)
    have HJ2 : Hid (JbAt V (cpJ J PA pc vs TA tc)) := HJ2
    have HE2 := HE2
    have CK := hide (fun W (o : Only [] V W) => (show Calls Tryz.prog 22 #[.agg #[.int .i64 J.t, .int .i64 J.o, .int .i64 J.s, .int .i64 J.q, .int .i64 J.m, .int .i64 J.p, .slice PA J.pn pc, .slice TA J.tn tc, .slice EA n ec]] W fun e w' => e = .returned (.tuple #[.int .i64 (0 : Int), .int .i64 (3 : Int)]) ∧ Only [] W w' from by
      have h := scheck_any (cpJ J PA pc vs TA tc) EA n ec f W (jb_only0 HJ2.out o) (HE2.out.only0 o) hn
      rw [chkE_cp, HCK.out] at h
      exact h))
    have RC := hide (fun W (o : Only [] V W) => (show Calls Tryz.prog 25 #[.agg #[.int .i64 J.t, .int .i64 J.o, .int .i64 J.s, .int .i64 J.q, .int .i64 J.m, .int .i64 J.p, .slice J.pA J.pn J.pc, .slice J.tA J.tn J.tc, .slice A n c]] W fun e w' => e = .returned (.tuple #[.int .i64 (0 : Int), .int .i64 (3 : Int)]) ∧ Only [] W w' from by
      have h := rscheck_any J A n c f W (jb_only0 HJ.out (OC.out.trans0 o)) (HEV.out.only0 (OC.out.trans0 o)) hn
      rw [HCK.out] at h
      exact h))
    have SM := hide (fun W (o : Only [] V W) => (show Calls Tryz.prog 26 #[.agg #[.int .i64 J.t, .int .i64 J.o, .int .i64 J.s, .int .i64 J.q, .int .i64 J.m, .int .i64 J.p, .slice PA J.pn pc, .slice TA J.tn tc, .slice EA n ec], .agg #[.int .i64 J.t, .int .i64 J.o, .int .i64 J.s, .int .i64 J.q, .int .i64 J.m, .int .i64 J.p, .slice J.pA J.pn J.pc, .slice J.tA J.tn J.tc, .slice A n c]] W fun e w' => e = .returned (.bool true) ∧ Only [] W w' from by
      have h := rsame26_any (cpJ J PA pc vs TA tc) EA n ec f J A n c f W (jb_only0 HJ2.out o) (jb_only0 HJ.out (OC.out.trans0 o)) (HE2.out.only0 o) (HEV.out.only0 (OC.out.trans0 o)) hn
      rw [show (sjB (cpJ J PA pc vs TA tc) J && esB n n f f) = true from rsB_cp J PA pc vs TA tc n f] at h
      exact h))
    have TX := hide (fun W (o : Only [] V W) => (show Calls Tryz.prog 23 #[.agg #[.int .i64 J.t, .int .i64 J.o, .int .i64 J.s, .int .i64 J.q, .int .i64 J.m, .int .i64 J.p, .slice PA J.pn pc, .slice TA J.tn tc, .slice EA n ec]] W fun e w' => e = .returned (.tuple #[.string ⟨#[]⟩, .int .i64 (3 : Int)]) ∧ Only [] W w' from by
      have h := stext_bad (cpJ J PA pc vs TA tc) EA n ec f W (jb_only0 HJ2.out o) (HE2.out.only0 o) hn (by rw [chkE_cp, HCK.out]; show ((3 : Int) : Int) ≠ 0; decide)
      rw [chkE_cp, HCK.out] at h
      exact h))
    have JB := hide (fun W (o : Only [] V W) => (show Calls Tryz.prog 24 #[.agg #[.int .i64 J.t, .int .i64 J.o, .int .i64 J.s, .int .i64 J.q, .int .i64 J.m, .int .i64 J.p, .slice PA J.pn pc, .slice TA J.tn tc]] W fun e w' => e = .returned (.tuple #[.string sJ, .int .i64 0]) ∧ Only [] W w' from by
      have h := sjob_good (cpJ J PA pc vs TA tc) W (HE.out.only (OC.out.trans0 o)) (jb_only0 HJ2.out o) (good_job (by rw [jobE_cp, HJE.out]) (imm_cp HI.out PA pc vs TA tc))
      rw [jobT_cp, HSJ.out] at h
      exact h))
    have LN := hide (fun W (o : Only [] V W) => (show Calls Tryz.prog 27 #[.agg #[.int .i64 J.t, .int .i64 J.o, .int .i64 J.s, .int .i64 J.q, .int .i64 J.m, .int .i64 J.p, .slice J.pA J.pn J.pc, .slice J.tA J.tn J.tc]] W fun e w' => (∃ A c, e = .returned (.slice A (linesL J).length c) ∧ Qs w' (W.heap.size + 1) A c ((linesL J).map bs)) ∧ Only [] W w' from rlines_any J W (HE.out.only (OC.out.trans0 o)) (jb_only0 HJ.out (OC.out.trans0 o)) (good_job HJE.out HI.out)))
    clear hV hY
    go_wp2_with (first
      | (go_at_call 22; (with_reducible refine (CK.out _ OX.out).mono ?_); rintro e v5 ⟨rfl, o⟩; have OX := hide (OX.out.trans0 o); have B1 := hide (B1.out.only o (by simp)); have BY := hide (BY.out.only o (by simp)); clear x0 x1 x2 x3 x4 x5 x6 x7 x8 y0 y1 y2 y3 y4 y5 y6 y7 y8; have x0 := B1.out.cell 0; have x1 := B1.out.cell 1; have x2 := B1.out.cell 2; have x3 := B1.out.cell 3; have x4 := B1.out.cell 4; have x5 := B1.out.cell 5; have x6 := B1.out.cell 6; have x7 := B1.out.cell 7; have x8 := B1.out.cell 8; have y0 := BY.out.cell 0; have y1 := BY.out.cell 1; have y2 := BY.out.cell 2; have y3 := BY.out.cell 3; have y4 := BY.out.cell 4; have y5 := BY.out.cell 5; have y6 := BY.out.cell 6; have y7 := BY.out.cell 7; have y8 := BY.out.cell 8; clear o CK)
      | (go_at_call 23; (with_reducible refine (TX.out _ OX.out).mono ?_); rintro e v5 ⟨rfl, o⟩; have OX := hide (OX.out.trans0 o); have B1 := hide (B1.out.only o (by simp)); have BY := hide (BY.out.only o (by simp)); clear x0 x1 x2 x3 x4 x5 x6 x7 x8 y0 y1 y2 y3 y4 y5 y6 y7 y8; have x0 := B1.out.cell 0; have x1 := B1.out.cell 1; have x2 := B1.out.cell 2; have x3 := B1.out.cell 3; have x4 := B1.out.cell 4; have x5 := B1.out.cell 5; have x6 := B1.out.cell 6; have x7 := B1.out.cell 7; have x8 := B1.out.cell 8; have y0 := BY.out.cell 0; have y1 := BY.out.cell 1; have y2 := BY.out.cell 2; have y3 := BY.out.cell 3; have y4 := BY.out.cell 4; have y5 := BY.out.cell 5; have y6 := BY.out.cell 6; have y7 := BY.out.cell 7; have y8 := BY.out.cell 8; clear o TX)
      | (go_at_call 24; (with_reducible refine (JB.out _ OX.out).mono ?_); rintro e v5 ⟨rfl, o⟩; have OX := hide (OX.out.trans0 o); have B1 := hide (B1.out.only o (by simp)); have BY := hide (BY.out.only o (by simp)); clear x0 x1 x2 x3 x4 x5 x6 x7 x8 y0 y1 y2 y3 y4 y5 y6 y7 y8; have x0 := B1.out.cell 0; have x1 := B1.out.cell 1; have x2 := B1.out.cell 2; have x3 := B1.out.cell 3; have x4 := B1.out.cell 4; have x5 := B1.out.cell 5; have x6 := B1.out.cell 6; have x7 := B1.out.cell 7; have x8 := B1.out.cell 8; have y0 := BY.out.cell 0; have y1 := BY.out.cell 1; have y2 := BY.out.cell 2; have y3 := BY.out.cell 3; have y4 := BY.out.cell 4; have y5 := BY.out.cell 5; have y6 := BY.out.cell 6; have y7 := BY.out.cell 7; have y8 := BY.out.cell 8; clear o JB)
      | (go_at_call 25; (with_reducible refine (RC.out _ OX.out).mono ?_); rintro e v5 ⟨rfl, o⟩; have OX := hide (OX.out.trans0 o); have B1 := hide (B1.out.only o (by simp)); have BY := hide (BY.out.only o (by simp)); clear x0 x1 x2 x3 x4 x5 x6 x7 x8 y0 y1 y2 y3 y4 y5 y6 y7 y8; have x0 := B1.out.cell 0; have x1 := B1.out.cell 1; have x2 := B1.out.cell 2; have x3 := B1.out.cell 3; have x4 := B1.out.cell 4; have x5 := B1.out.cell 5; have x6 := B1.out.cell 6; have x7 := B1.out.cell 7; have x8 := B1.out.cell 8; have y0 := BY.out.cell 0; have y1 := BY.out.cell 1; have y2 := BY.out.cell 2; have y3 := BY.out.cell 3; have y4 := BY.out.cell 4; have y5 := BY.out.cell 5; have y6 := BY.out.cell 6; have y7 := BY.out.cell 7; have y8 := BY.out.cell 8; clear o RC)
      | (go_at_call 26; (with_reducible refine (SM.out _ OX.out).mono ?_); rintro e v5 ⟨rfl, o⟩; have OX := hide (OX.out.trans0 o); have B1 := hide (B1.out.only o (by simp)); have BY := hide (BY.out.only o (by simp)); clear x0 x1 x2 x3 x4 x5 x6 x7 x8 y0 y1 y2 y3 y4 y5 y6 y7 y8; have x0 := B1.out.cell 0; have x1 := B1.out.cell 1; have x2 := B1.out.cell 2; have x3 := B1.out.cell 3; have x4 := B1.out.cell 4; have x5 := B1.out.cell 5; have x6 := B1.out.cell 6; have x7 := B1.out.cell 7; have x8 := B1.out.cell 8; have y0 := BY.out.cell 0; have y1 := BY.out.cell 1; have y2 := BY.out.cell 2; have y3 := BY.out.cell 3; have y4 := BY.out.cell 4; have y5 := BY.out.cell 5; have y6 := BY.out.cell 6; have y7 := BY.out.cell 7; have y8 := BY.out.cell 8; clear o SM)
      | (go_at_call 12; (with_reducible refine (num_any _ _).mono ?_); rintro e v2 ⟨rfl, hw⟩; obtain rfl := hw.symm; clear hw)
      | (go_at_call 27; (with_reducible refine (LN.out _ OX.out).mono ?_); rintro e v6 ⟨⟨LA, lc, rfl, hq⟩, o⟩; have QL := hide hq; have OX := hide (OX.out.trans0 o); have B1 := hide (B1.out.only o (by simp)); have BY := hide (BY.out.only o (by simp)); clear x0 x1 x2 x3 x4 x5 x6 x7 x8 y0 y1 y2 y3 y4 y5 y6 y7 y8; have x0 := B1.out.cell 0; have x1 := B1.out.cell 1; have x2 := B1.out.cell 2; have x3 := B1.out.cell 3; have x4 := B1.out.cell 4; have x5 := B1.out.cell 5; have x6 := B1.out.cell 6; have x7 := B1.out.cell 7; have x8 := B1.out.cell 8; have y0 := BY.out.cell 0; have y1 := BY.out.cell 1; have y2 := BY.out.cell 2; have y3 := BY.out.cell 3; have y4 := BY.out.cell 4; have y5 := BY.out.cell 5; have y6 := BY.out.cell 6; have y7 := BY.out.cell 7; have y8 := BY.out.cell 8; clear o LN hq))
    obtain ⟨U, hU⟩ : ∃ W, v6 = W := ⟨_, rfl⟩
    rw [hU] at QL OX B1 BY x0 x1 x2 x3 x4 x5 x6 x7 x8 y0 y1 y2 y3 y4 y5 y6 y7 y8 ⊢
    clear hU x0 x1 x2 x3 x4 x5 x6 x7 x8 y0 y1 y2 y3 y4 y5 y6 y7 y8
    have hjl := HJL.out
    have hll := HLL.out
    go_loopw [12, 14] (fun v12 v14 wr => ∃ q : Nat, q ≤ (linesL J).length ∧ v12 = .string (bs (joinT ((linesL J).take q))) ∧ v14 = .int .i64 q ∧ Hid (Only [] U wr)) (fun _ v14 _ => (linesL J).length - (intOf v14).toNat)
    case atStart => exact ⟨0, by omega, rfl, rfl, hide (Only.refl _ _)⟩
    case round =>
      obtain ⟨q, hq, rfl, rfl, hO⟩ := hrel
      by_cases hqn : q < (linesL J).length
      · obtain ⟨x, hx⟩ : ∃ x, (linesL J)[q]? = some x := ⟨_, List.getElem?_eq_getElem hqn⟩
        obtain ⟨g, rfl, h1, _⟩ := own_cell QL.out (by rw [List.length_map]; omega)
        have cq := hO.out.keep0 ((h1 q (by rw [List.length_map]; omega)).trans (show (Strs ((linesL J).map bs))[q]? = some (.string (bs x)) by simp [Strs, hx]))
        have j0 : (0 : Int) ≤ (q : Int) := by omega
        have j1 : (q : Int) < ((linesL J).length : Int) := by omega
        have htk : joinT ((linesL J).take (q + 1)) = joinT ((linesL J).take q) ++ x ++ [10] := by rw [List.take_add_one, hx, joinT_append]; simp [joinT]
        have hl1 := joinT_take (linesL J) (q + 1)
        rw [linesL_join, htk, List.length_append, List.length_append, List.length_cons, List.length_nil] at hl1
        have k1 : bs (joinT ((linesL J).take q)) ++ bs x = bs (joinT ((linesL J).take q) ++ x) := bs_cat _ _
        have k2 : bs (joinT ((linesL J).take q) ++ x) ++ (⟨#[10]⟩ : ByteArray) = bs (joinT ((linesL J).take (q + 1))) := by rw [htk]; exact bs_cat _ [10]
        have z1 : ¬ 9223372036854775807 < (bs (joinT ((linesL J).take q))).size + (bs x).size := by rw [bs_size, bs_size]; omega
        have z2 : ¬ 9223372036854775807 < (bs (joinT ((linesL J).take q) ++ x)).size + (⟨#[10]⟩ : ByteArray).size := by rw [bs_size, show (⟨#[10]⟩ : ByteArray).size = 1 from rfl, List.length_append]; omega
        obtain ⟨s0, hs0⟩ : ∃ s, bs (joinT ((linesL J).take q)) = s := ⟨_, rfl⟩
        obtain ⟨s1, hs1⟩ : ∃ s, bs x = s := ⟨_, rfl⟩
        obtain ⟨s2, hs2⟩ : ∃ s, bs (joinT ((linesL J).take q) ++ x) = s := ⟨_, rfl⟩
        obtain ⟨s3, hs3⟩ : ∃ s, bs (joinT ((linesL J).take (q + 1))) = s := ⟨_, rfl⟩
        rw [hs0] at k1 z1 ⊢
        rw [hs1] at k1 z1 cq
        rw [hs2] at k1 k2 z2
        rw [hs3] at k2
        have HS3 := hide hs3
        clear hx h1 htk hl1 hs0 hs1 hs2 hs3
        go_wp2_with fail
        go_roundw
        case rel => exact ⟨q + 1, by omega, by rw [HS3.out], by go_num, hO⟩
        case measure => simp [intOf]; omega
      · obtain hqe : q = (linesL J).length := by omega
        rw [hqe, List.take_length, linesL_join, HSJ.out]
        have bq : (sJ.toList == sJ.toList) = true := by simp
        have OX := hide (OX.out.trans0 hO.out)
        have B1 := hide (B1.out.only hO.out (by simp))
        have x0 := B1.out.cell 0; have x1 := B1.out.cell 1; have x2 := B1.out.cell 2; have x3 := B1.out.cell 3; have x4 := B1.out.cell 4; have x5 := B1.out.cell 5; have x6 := B1.out.cell 6; have x7 := B1.out.cell 7; have x8 := B1.out.cell 8
        clear hqe hqn hq hO hjl hll QL
        go_wp2_with (first
          | (go_at_call 12; (with_reducible refine (num_any _ _).mono ?_); rintro e v2 ⟨rfl, hw⟩; obtain rfl := hw.symm; clear hw)
          | (go_at_call 7; (with_reducible refine (KN.out _ (OC.out.trans0 OX.out)).mono ?_); rintro e v1 ⟨rfl, o⟩; have OX := hide (OX.out.trans0 o); clear o))
        go_ret
        exact ⟨rfl, OC.out.trans0 OX.out⟩
  · go_ret
    exact ⟨rfl, OC.out⟩
end Go.Proofs.YteblhklclcjonaaGreatDoor
namespace Go.Proofs.YteblhklclcjonaaGreatDoor
open Go.ChangeShapes Go.WideShapes Go.ChangeAt Go.RowKit Go.Deep
set_option linter.unusedVariables false
set_option linter.all false
set_option maxRecDepth 20000

section
variable {H : Type} {enc : TypeId × Value → H} {W : World} {sp : Nat → Bool} {held : Bool}
theorem slice_weight {t e : TypeId} {base fuel : Nat} {A : Option Addr} {n c : Nat} {x : DataW H × List MemPlace} (ht : Tryz.prog.underlying t = some (.slice e)) (hf : DataW.trod enc Tryz.prog W base sp held fuel t [.slice A n c] = some x) : n = 0 ∨ ∃ k, k ∈ x.1.weights Tryz.prog t ∧ n * Tryz.prog.bytesOf e ≤ k := by
  rcases open_slice ht hf with ⟨hcs, _⟩ | ⟨a, len, cap, m, q, D, Pl, hcs, hb, hl, hm, hmm, hx, hi⟩
  · simp at hcs
    exact .inl hcs.2.1
  · simp at hcs
    obtain ⟨rfl, rfl, rfl⟩ := hcs
    refine .inr ⟨(((List.range n).map D).length + ((List.range (m - n)).map fun j => D (n + j)).length) * Tryz.prog.bytesOf e, ?_, ?_⟩
    · rw [hx]
      simp only [DataW.weights, ht]
      exact List.mem_cons_self
    · rw [List.length_map, List.length_range]
      exact Nat.mul_le_mul_right _ (by omega)
theorem sized_script {ts : List TypeId} {dl : List (DataW H)} (hsz : (DataW.weightsEach Tryz.prog ts dl).all (· ≤ reachBytes) = true) {j base : Nat} {J : Jb} {A : Option Addr} {n c : Nat} {d : DataW H} {p : List MemPlace}
    (ht : ts[j]? = some 54) (hd : dl[j]? = some d) (h : DataW.Trod enc Tryz.prog W base sp held 54 (.agg (sc9 J A n c)) d p) : J.pn + J.tn ≤ 9000000000000000000 := by
  obtain ⟨fuel, hf⟩ := h
  obtain ⟨xs, m, _, hx, _, hl, hat⟩ := DataW.trod_struct Tryz.underlying54 hf
  have hl : xs.length = 2 := hl
  have aj := hat 0 _ rfl
  rw [List.getElem?_eq_getElem (by omega)] at aj
  change DataW.trod _ _ _ _ _ _ _ 52 [.int .i64 J.t, .int .i64 J.o, .int .i64 J.s, .int .i64 J.q, .int .i64 J.m, .int .i64 J.p, .slice J.pA J.pn J.pc, .slice J.tA J.tn J.tc] = _ at aj
  obtain ⟨ys, m', _, hy, _, hl', hat'⟩ := DataW.trod_struct Tryz.underlying52 aj
  have hl' : ys.length = 8 := hl'
  have a6 := hat' 6 _ rfl
  have a7 := hat' 7 _ rfl
  rw [List.getElem?_eq_getElem (by omega)] at a6 a7
  change DataW.trod _ _ _ _ _ _ _ 49 [.slice J.pA J.pn J.pc] = _ at a6
  change DataW.trod _ _ _ _ _ _ _ 50 [.slice J.tA J.tn J.tc] = _ at a7
  have hdx : d = .agg (xs.map (·.1)) := congrArg Prod.fst hx
  have hx0 : (xs[0]'(by omega)).1 = .agg (ys.map (·.1)) := congrArg Prod.fst hy
  have up : ∀ k, k ∈ (DataW.agg (ys.map (·.1))).weights Tryz.prog 52 → k ≤ reachBytes := fun k hk => by
    have h1 : k ∈ d.weights Tryz.prog 54 := by
      rw [hdx]
      simp only [DataW.weights, Tryz.underlying54]
      refine DataW.weights_mem_each (j := 0) (t := 52) (d := .agg (ys.map (·.1))) rfl ?_ k hk
      rw [List.getElem?_map, List.getElem?_eq_getElem (by omega), ← hx0]
      rfl
    have h2 := List.all_eq_true.1 hsz k (DataW.weights_mem_each ht hd k h1)
    simpa using h2
  have hp : J.pn ≤ 4000000000000000000 := by
    rcases slice_weight Tryz.underlying49 a6 with h0 | ⟨k, hk, hle⟩
    · omega
    · have h1 : k ≤ reachBytes := up k (by
        simp only [DataW.weights, Tryz.underlying52]
        refine DataW.weights_mem_each (j := 6) (t := 49) (d := (ys[6]'(by omega)).1) rfl ?_ k hk
        rw [List.getElem?_map, List.getElem?_eq_getElem (by omega)]
        rfl)
      have hb : Tryz.prog.bytesOf 67 = 24 := by kernel_rfl
      have hr : reachBytes = 140737488351232 := rfl
      rw [hb] at hle
      omega
  have ht2 : J.tn ≤ 4000000000000000000 := by
    rcases slice_weight Tryz.underlying50 a7 with h0 | ⟨k, hk, hle⟩
    · omega
    · have h1 : k ≤ reachBytes := up k (by
        simp only [DataW.weights, Tryz.underlying52]
        refine DataW.weights_mem_each (j := 7) (t := 50) (d := (ys[7]'(by omega)).1) rfl ?_ k hk
        rw [List.getElem?_map, List.getElem?_eq_getElem (by omega)]
        rfl)
      have hb : Tryz.prog.bytesOf 9 = 16 := by kernel_rfl
      have hr : reachBytes = 140737488351232 := rfl
      rw [hb] at hle
      omega
  omega
end
end Go.Proofs.YteblhklclcjonaaGreatDoor
namespace Go.Proofs.YteblhklclcjonaaGreatDoor
open Go.RowKit
set_option linter.unusedVariables false
set_option linter.all false
theorem stexts_walk (J : Jb) (A : Option Addr) (n c : Nat) (f : Nat → Ev) (w : World) (he : Env w) (hw4 : 4 ≤ w.heap.size) (hJ : JbAt w J) (hi : ImmOk J) (hE : EvAt w A n f) (hEl : EvLt A w.heap.size) (hn : n ≤ maxLen) (hpt : J.pn + J.tn ≤ 9000000000000000000) : Calls Tryz.prog 4 #[.agg (sc9 J A n c)] w fun e w' => e = .returned (.bool true) ∧ Only [] w w' := by
  have hj2 : jobE J = 0 ∨ jobE J = 2 := by unfold jobE; split <;> simp
  rcases hj2 with hj | hj
  · by_cases hi1 : 0 ≤ fb (badE f) n
    · have hc : chkE J n f = (fb (badE f) n, 2) := by unfold chkE; rw [if_neg (by rw [hj]; simp), if_pos hi1]
      by_cases h0 : fb (badE f) n = 0
      · rw [h0] at hc
        exact stexts_b2z J A n c f w he hw4 hJ hi hE hEl hn hpt hj hc
      · exact stexts_b2n J A n c f w he hw4 hJ hi hE hEl hn hpt _ h0 hj hc
    · by_cases hn2 : 8192 < n
      · exact stexts_b3 J A n c f w he hw4 hJ hi hE hEl hn hpt hj (by unfold chkE; rw [if_neg (by rw [hj]; simp), if_neg hi1, if_pos hn2])
      · exact stexts_b1 J A n c f w he hw4 hJ hi hE hEl hn hpt hj (by unfold chkE; rw [if_neg (by rw [hj]; simp), if_neg hi1, if_neg hn2])
  · exact stexts_Ja J A n c f w he hw4 hJ hi hE hEl hn hpt hj (by unfold chkE; rw [if_pos (by rw [hj]; simp), hj])
end Go.Proofs.YteblhklclcjonaaGreatDoor
