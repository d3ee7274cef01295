/- Ready lists, the document's answer: the walk of All. Condition: the rows lie. -/
import Derived.Test.YtlaeiknkabajkaaRd24
namespace Go.Proofs.Ytlaeiknkabajkaa
open Go.RowKit Go.Shelf
set_option linter.unusedVariables false
set_option linter.all false
set_option maxRecDepth 20000
attribute [local go_sem ↓] app_hide

/-- Pairs as cells. -/
def PN (l : List (Nat × Nat)) : List Value := l.flatMap fun x => [.int .i64 (x.1 : Int), .int .i64 (x.2 : Int)]
theorem PN_len : ∀ l : List (Nat × Nat), (PN l).length = l.length * 2
  | [] => rfl
  | x :: r => by
    have := PN_len r
    unfold PN at this ⊢
    rw [List.flatMap_cons, List.length_append, this]
    simp
    omega
theorem PN_append (l r : List (Nat × Nat)) : PN (l ++ r) = PN l ++ PN r := by simp [PN]
theorem PN_get : ∀ (l : List (Nat × Nat)) (k : Nat) (x : Nat × Nat), l[k]? = some x → (PN l)[k * 2]? = some (.int .i64 (x.1 : Int)) ∧ (PN l)[k * 2 + 1]? = some (.int .i64 (x.2 : Int))
  | [], k, x, h => by simp at h
  | y :: r, 0, x, h => by simp at h; subst h; exact ⟨rfl, rfl⟩
  | y :: r, k + 1, x, h => by
    have := PN_get r k x (by simpa using h)
    rw [show (k + 1) * 2 = k * 2 + 1 + 1 by omega]
    exact this
theorem pair_info : (Try.prog.info? 62).map (fun i => (i.zero, i.size, i.bytes)) = some (some (.agg #[.int .i64 0, .int .i64 0]), 2, 16) := by kernel_rfl
theorem app_two (W : World) (base : Nat) (A : Option Addr) (c : Nat) (M : List (Nat × Nat)) (x : Nat × Nat) (h : W.ownsRow base 62 2 (.slice A M.length c) M.length (PN M)) (hl : M.length ≤ 100000) (hb : base ≤ W.heap.size) :
    ∃ g' cap' w2, (AppH #[60, 60] 60 #[.slice A M.length c, .slice (some ⟨W.heap.size, 0, none⟩) 1 1]).run Try.prog (W.alloc (.cells #[.int .i64 (x.1 : Int), .int .i64 (x.2 : Int)] 62)) = .ok (.slice (some ⟨g', 0, none⟩) (M.length + 1) cap') w2 ∧
      w2.ownsRow base 62 2 (.slice (some ⟨g', 0, none⟩) (M ++ [x]).length cap') (M ++ [x]).length (PN (M ++ [x])) ∧ Only (blkOf A) W w2 := by
  obtain ⟨i0, hi, hz0, hz1, hz2⟩ := info_parts pair_info
  obtain ⟨g', cap', w2, hrun, hown, ho, hgg⟩ := append_at (P := Try.prog) (W.alloc (.cells #[.int .i64 (x.1 : Int), .int .i64 (x.2 : Int)] 62)) base 60 60 62 i0 (.agg #[.int .i64 0, .int .i64 0]) 2 16 Try.underlying60 hi hz0 hz1 hz2 rfl (by omega) A M.length c (PN M) (own_only' h ((Only.refl [] W).alloc _) (by simp))
    ⟨W.heap.size, 0, none⟩ 1 1 [.int .i64 (x.1 : Int), .int .i64 (x.2 : Int)] rfl (fun j u hj => by
      have := (Blk.new W 62 #[.int .i64 (x.1 : Int), .int .i64 (x.2 : Int)]).cell j
      rw [add_mk, Nat.zero_add, this, List.getElem?_toArray]
      exact hj) (by simp [Value.oneCell']) (.inl (by omega)) (by unfold maxLen; omega) (by omega) (by simp; omega)
  rw [app_hide] at hrun
  refine ⟨g', cap', w2, hrun, ?_, ((Only.refl (blkOf A) W).alloc _).trans' ho⟩
  rw [PN_append, List.length_append]
  exact hown
set_option maxHeartbeats 2000000 in
theorem rall_any (d : Nat) (q : Nat → List Nat) (h0 : q 0 = []) (hl : (allQ q).length ≤ 16) (w : World) (h : DQ w d q) :
    Calls Try.prog 26 #[ptr d] w fun e w' => (∃ A c, e = .returned (.slice A (allQ q).length c) ∧ w'.ownsRow w.heap.size 62 2 (.slice A (allQ q).length c) (allQ q).length (PN (allQ q))) ∧ Only [] w w' := by
  have HD := hide h
  have HZ := hide h0
  have HL := hide hl
  clear h h0 hl
  unfold ptr
  go_enter Try.func26, Try.ntmps26
  go_wp2_with fail
  go_loopw [3, 4, 5] (fun vl vp _ wr => ∃ (P : Nat) (A : Option Addr) (c : Nat) (M : List (Nat × Nat)), P ≤ 31 ∧ vp = .int .i64 P ∧ vl = .slice A M.length c ∧ wr.ownsRow w.heap.size 62 2 (.slice A M.length c) M.length (PN M) ∧ allQ q = M ++ below q (P + 1) ∧ Only [] w wr) (fun _ vp _ _ => (intOf vp).toNat)
  case atStart => exact ⟨31, none, 0, [], Nat.le_refl _, rfl, rfl, World.ownsRow_nil .., rfl, Only.refl _ _⟩
  case round =>
    obtain ⟨P, A, c, M, hP, rfl, rfl, hown, hall, hO⟩ := hrel
    have HW := hide hown
    have HA := hide hall
    have HO := hide hO
    clear hown hall hO
    by_cases hz : P = 0
    · subst hz
      have hb1 : below q (0 + 1) = [] := by rw [below, HZ.out]; rfl
      have hM : allQ q = M := by rw [HA.out, hb1, List.append_nil]
      have HM := hide hM
      clear hM hb1
      go_wp2_with fail
      go_ret
      exact ⟨⟨A, c, by rw [HM.out]; rfl, by rw [HM.out]; exact HW.out⟩, HO.out⟩
    · obtain ⟨cs, R, cc, hb, hsz, hr⟩ := HD.out
      obtain ⟨hc, hrow⟩ := hr P (by omega)
      have i1 : (1 : Int) ≤ (P : Int) := by omega
      have i2 : (P : Int) < 32 := by omega
      have i0 : (0 : Int) ≤ (P : Int) := by omega
      have KP := hide ((hb.cell P).trans hc)
      have HR := hide hrow.nsrc
      obtain ⟨L, hL⟩ : ∃ L, q P = L := ⟨_, rfl⟩
      obtain ⟨A1, hA1⟩ : ∃ A1, R P = A1 := ⟨_, rfl⟩
      obtain ⟨c1, hc1⟩ : ∃ c1, cc P = c1 := ⟨_, rfl⟩
      have hbl : below q (P + 1) = L.map (fun t => (P, t)) ++ below q P := by rw [below, hL]
      have HBL := hide hbl
      rw [hL, hA1, hc1] at KP
      rw [hL, hA1] at HR
      have hlM : M.length + L.length ≤ 16 := by have h1 := HL.out; rw [HA.out, hbl] at h1; simp at h1; omega
      clear hb hsz hr hc hrow hL hA1 hc1 hbl
      go_wp2_with fail
      go_loopw [3, 5] (fun vl vi wy => ∃ (i : Nat) (A : Option Addr) (c : Nat) (M' : List (Nat × Nat)), i ≤ L.length ∧ vi = .int .i64 i ∧ vl = .slice A M'.length c ∧ wy.ownsRow w.heap.size 62 2 (.slice A M'.length c) M'.length (PN M') ∧ M' = M ++ (L.take i).map (fun t => (P, t)) ∧ Only [] w wy) (fun _ vi _ => L.length - (intOf vi).toNat)
      case atStart => exact ⟨0, A, c, M, Nat.zero_le _, rfl, rfl, HW.out, by simp, HO.out⟩
      case round =>
        obtain ⟨i, A2, c2, M2, hi, rfl, rfl, hown2, hM2, hO2⟩ := hrel
        have HW2 := hide hown2
        have HM2 := hide hM2
        have HO2 := hide hO2
        have kp := hO2.keep0 KP.out
        have hl2 : M2.length ≤ 16 := by rw [hM2]; simp; omega
        clear hown2 hM2 hO2
        by_cases hin : i < L.length
        · obtain ⟨v, hv⟩ : ∃ v, L[i]? = some v := ⟨_, List.getElem?_eq_getElem hin⟩
          obtain ⟨g, hg, hgc⟩ := HR.out (by omega)
          have kc := HO2.out.keep0 (hgc i v hv)
          have j1 : (i : Int) < (L.length : Int) := by omega
          have j0 : (0 : Int) ≤ (i : Int) := by omega
          have HV := hide hv
          subst hg
          clear hgc hv
          obtain ⟨g3, c3, w3, e1, r1, o1⟩ := app_two _ w.heap.size A2 c2 M2 (P, v) HW2.out (by omega) HO2.out.size
          have R1 := hide r1
          have o3 : Only [] w w3 := HO2.out.trans o1 (fun k hk => .inr (own_ge HW2.out k hk).1)
          have O3 := hide o3
          clear r1 o1 o3
          go_wp2_with fail
          go_roundw
          case rel => exact ⟨i + 1, some ⟨g3, 0, none⟩, c3, M2 ++ [(P, v)], by omega, by go_num, by simp, R1.out, by rw [HM2.out, List.take_add_one, HV.out]; simp, O3.out⟩
          case measure => simp [intOf]; omega
        · obtain rfl : i = L.length := by omega
          have hM3 : M2 = M ++ L.map (fun t => (P, t)) := by rw [HM2.out, List.take_length]
          go_wp2_with fail
          go_roundw
          case rel => exact ⟨P - 1, A2, c2, M2, by omega, by go_num, rfl, HW2.out, by rw [show P - 1 + 1 = P by omega, hM3, HA.out, HBL.out]; simp, HO2.out⟩
          case measure => simp [intOf]; omega
end Go.Proofs.Ytlaeiknkabajkaa
