/- Ready lists, the document's answer: the walk of Same. Condition: the rows lie. -/
import Derived.Test.YtlaeiknkabajkaaRd25
import Derived.BigQuiet
namespace Go.Proofs.Ytlaeiknkabajkaa
open Go.RowKit Go.Shelf
set_option linter.unusedVariables false
set_option linter.all false
set_option maxRecDepth 20000

/-- The cells that a slice of pairs shows. -/
def Psrc (W : World) (A : Option Addr) (l : List (Nat × Nat)) : Prop := 0 < l.length → ∃ g, A = some ⟨g, 0, none⟩ ∧ ∀ (j : Nat) (x : Nat × Nat), l[j]? = some x → W.cell? ⟨g, j * 2, none⟩ = some (.int .i64 (x.1 : Int)) ∧ W.cell? ⟨g, j * 2 + 1, none⟩ = some (.int .i64 (x.2 : Int))
theorem Psrc.own {w : World} {base c : Nat} {A : Option Addr} {l : List (Nat × Nat)} (h : w.ownsRow base 62 2 (.slice A l.length c) l.length (PN l)) : Psrc w A l := fun hl => by
  obtain ⟨g, rfl, hc, _⟩ := own_cell h hl
  refine ⟨g, rfl, fun j x hj => ?_⟩
  have hj' := (List.getElem?_eq_some_iff.1 hj).1
  obtain ⟨e1, e2⟩ := PN_get l j x hj
  exact ⟨(hc _ (by omega)).trans e1, (hc _ (by omega)).trans e2⟩
theorem Psrc.only0 {w w' : World} {A : Option Addr} {l : List (Nat × Nat)} (h : Psrc w A l) (o : Only [] w w') : Psrc w' A l := fun hl => by
  obtain ⟨g, rfl, hc⟩ := h hl
  exact ⟨g, rfl, fun j x hj => ⟨o.keep0 (hc j x hj).1, o.keep0 (hc j x hj).2⟩⟩
theorem run_eq62 (a b c d : Int) (W : World) : (Op.equalIn (9999 + 1) 62 (.agg #[.int .i64 a, .int .i64 b]) (.agg #[.int .i64 c, .int .i64 d])).run Try.prog W = .ok ((a == c) && (b == d)) W := by
  have h3 : ∀ (x y : Int) (W : World), (Op.equalIn 9999 3 (.int .i64 x) (.int .i64 y)).run Try.prog W = .ok (x == y) W := fun x y W => run_equalIn_int W 9998 3 .i64 .i64 x y Try.underlying3
  unfold Op.equalIn
  simp only [Sem.run_bind, run_underlying Try.underlying62, Result.andThen_ok]
  by_cases h1 : a = c <;> by_cases h2 : b = d <;> simp [h1, h2, Std.Legacy.Range.forIn_eq_forIn_range', Std.Legacy.Range.size, List.range', part, go_sem, h3, Try.sizeOf3]
theorem pair_eq (x y : Nat × Nat) (r : Bool) (h : decide (x = y) = r) (W : World) : (Op.equalIn 10000 62 (.agg #[.int .i64 (x.1 : Int), .int .i64 (x.2 : Int)]) (.agg #[.int .i64 (y.1 : Int), .int .i64 (y.2 : Int)])).run Try.prog W = .ok r W := by
  have := run_eq62 x.1 x.2 y.1 y.2 W
  refine this.trans ?_
  congr 1
  rw [← h]
  obtain ⟨x1, x2⟩ := x
  obtain ⟨y1, y2⟩ := y
  by_cases e1 : x1 = y1 <;> by_cases e2 : x2 = y2 <;> simp [e1, e2] <;> omega
set_option maxHeartbeats 2000000 in
theorem rsame_spec (da db : Nat) (qa qb : Nat → List Nat) (ha0 : qa 0 = []) (hb0 : qb 0 = []) (hla : (allQ qa).length ≤ 16) (hlb : (allQ qb).length ≤ 16) (w : World) (hA : DQ w da qa) (hB : DQ w db qb) :
    Calls Try.prog 9 #[ptr da, ptr db] w fun e w' => e = .returned (.bool (sameQ qa qb)) ∧ Only [] w w' := by
  have AA := hide (rall_any da qa ha0 hla w hA)
  have AB := hide (fun W (o : Only [] w W) => rall_any db qb hb0 hlb W (hB.only o (NoRow.nil _) (by simp)))
  have hG : Try.prog.eqGuardType Try.prog.depth 62 = false := by kernel_rfl
  obtain ⟨b, hb⟩ : ∃ b, sameQ qa qb = b := ⟨_, rfl⟩
  obtain ⟨la, hqa⟩ : ∃ l, allQ qa = l := ⟨_, rfl⟩
  obtain ⟨lb, hqb⟩ : ∃ l, allQ qb = l := ⟨_, rfl⟩
  rw [hqa] at AA hla
  rw [hqb] at AB hlb
  have hbd : b = decide (la = lb) := by
    rw [← hb, ← hqa, ← hqb]
    by_cases h : allQ qa = allQ qb
    · rw [sameQ_yes h, decide_eq_true h]
    · rw [sameQ_no h, decide_eq_false h]
  rw [hb]
  have HB := hide hbd
  clear hb hqa hqb hbd ha0 hb0 hA hB
  unfold ptr at AA AB ⊢
  by_cases hlen : la.length = lb.length
  · obtain ⟨n, hn⟩ : ∃ n, la.length = n := ⟨_, rfl⟩
    have hm : lb.length = n := by omega
    have hn16 : n ≤ 16 := by omega
    have HN := hide hn
    have HM := hide hm
    rw [hn] at AA
    rw [hm] at AB
    clear hlen hn hm
    go_enter Try.func9, Try.ntmps9
    go_wp2_with (first
      | (go_at_call 26; (with_reducible refine AA.out.mono ?_); rintro e w1 ⟨⟨A1, c1, rfl, own1⟩, o1⟩; have S1 := hide (Psrc.own (HN.out ▸ own1)); clear own1)
      | (go_at_call 26; (with_reducible refine (AB.out _ o1).mono ?_); rintro e w2 ⟨⟨A2, c2, rfl, own2⟩, o2⟩; have S2 := hide (Psrc.own (HM.out ▸ own2)); clear own2))
    have O2 := hide (o1.trans0 o2)
    have S1' := hide (S1.out.only0 o2)
    clear S1 o1 o2
    go_loopw [7] (fun i wr => ∃ k : Nat, k ≤ n ∧ i = .int .i64 k ∧ (∀ j, j < k → la[j]? = lb[j]?) ∧ ∃ m, w2.drewN m = wr) (fun i _ => n - (intOf i).toNat)
    case atStart => exact ⟨0, Nat.zero_le _, rfl, fun j hj => by omega, 0, rfl⟩
    case round =>
      obtain ⟨k, hk, rfl, hq, m, rfl⟩ := hrel
      have HQ := hide hq
      clear hq
      by_cases hlt : k < n
      · obtain ⟨x, hx⟩ : ∃ x, la[k]? = some x := ⟨_, List.getElem?_eq_getElem (by rw [HN.out]; exact hlt)⟩
        obtain ⟨y, hy⟩ : ∃ y, lb[k]? = some y := ⟨_, List.getElem?_eq_getElem (by rw [HM.out]; exact hlt)⟩
        obtain ⟨g1, e1, f1⟩ := S1'.out (by rw [HN.out]; omega)
        obtain ⟨g2, e2, f2⟩ := S2.out (by rw [HM.out]; omega)
        obtain ⟨k1, k2⟩ := f1 k x hx
        obtain ⟨k3, k4⟩ := f2 k y hy
        have HX := hide hx
        have HY := hide hy
        subst e1 e2
        clear f1 f2 hx hy
        have j1 : (k : Int) < (n : Int) := by omega
        have j0 : (0 : Int) ≤ (k : Int) := by omega
        by_cases hxy : x = y
        · have HE := hide hxy
          have hE := pair_eq x y true (decide_eq_true hxy)
          clear hxy
          go_wp2_with fail
          go_quiet (fail)
          go_wp2_with fail
          go_roundw
          case rel => exact ⟨k + 1, by omega, by go_num, fun j hj => by
            rcases Nat.lt_or_ge j k with h | h
            · exact HQ.out j h
            · obtain rfl : j = k := by omega
              rw [HX.out, HY.out, HE.out], _, rfl⟩
          case measure => simp [intOf]; omega
        · have hb' : b = false := by
            rw [HB.out]
            refine decide_eq_false fun h => hxy ?_
            have := HX.out
            rw [h, HY.out] at this
            exact (Option.some.inj this).symm
          subst hb'
          have hE := pair_eq x y false (decide_eq_false hxy)
          clear hxy
          go_wp2_with fail
          go_quiet (fail)
          go_wp2_with fail
          go_ret
          exact ⟨rfl, (O2.out.drewN _).drewN _⟩
      · obtain rfl : k = n := by omega
        have hb' : b = true := by
          rw [HB.out]
          refine decide_eq_true ?_
          refine List.ext_getElem? (fun j => ?_)
          rcases Nat.lt_or_ge j k with h | h
          · exact HQ.out j h
          · rw [List.getElem?_eq_none (by rw [HN.out]; exact h), List.getElem?_eq_none (by rw [HM.out]; exact h)]
        subst hb'
        go_wp2_with fail
        go_ret
        exact ⟨rfl, O2.out.drewN _⟩
  · have hb' : b = false := by
      rw [HB.out]
      exact decide_eq_false fun h => hlen (by rw [h])
    subst hb'
    have hne1 : ((la.length : Int) == (lb.length : Int)) = false := by simp; omega
    have hne2 : ((la.length : Int) != (lb.length : Int)) = true := by simp; omega
    go_enter Try.func9, Try.ntmps9
    go_wp2_with (first
      | (go_at_call 26; (with_reducible refine AA.out.mono ?_); rintro e w1 ⟨⟨A1, c1, rfl, own1⟩, o1⟩)
      | (go_at_call 26; (with_reducible refine (AB.out _ o1).mono ?_); rintro e w2 ⟨⟨A2, c2, rfl, own2⟩, o2⟩))
    go_ret
    exact ⟨rfl, o1.trans0 o2⟩
end Go.Proofs.Ytlaeiknkabajkaa
