/- ServerBounds: the law returns true whatever the input. No condition. -/
import Derived.Test.YtidllhnldhnoeaaSv7
import Derived.Test.YtidllhnldhnoeaaRows
import Derived.Deep.Slices
import Derived.Deep.Fields
import Derived.ChangeSame
import Derived.ProofKit
import Derived.OpenShut
import Derived.ChangeOld
namespace Go.Proofs.Ytidllhnldhnoeaa.serverBounds
open Go.ChangeShapes Go.WideShapes Go.ChangeAt Go.RowKit Go.Deep
set_option linter.unusedVariables false
set_option linter.all false

/-- What the law's slice of gaps holds. -/
def GapsAt (w : World) (A : Option Addr) (n : Nat) : Prop := ∀ k, k < n → ∃ (a : Addr) (b : Bool), A = some a ∧ w.cell? (a.add k) = some (.bool b)
theorem GapsAt.only0 {w w' : World} {A : Option Addr} {n : Nat} (h : GapsAt w A n) (ho : Only [] w w') : GapsAt w' A n := fun k hk => by
  obtain ⟨a, b, rfl, h0⟩ := h k hk
  exact ⟨a, b, rfl, ho.keep0 h0⟩
def IV (us : List Int) : List Value := us.map fun u => .int .i64 u
theorem int_info : (Try.prog.info? 2).map (fun i => (i.zero, i.size, i.bytes)) = some (some (.int .i64 0), 1, 8) := by kernel_rfl
theorem own_own_ne {w : World} {b1 b2 s1 s2 n n' c c' : Nat} {e1 e2 : TypeId} {A A' : Option Addr} {xs ys : List Value} (h1 : w.ownsRow b1 e1 s1 (.slice A n c) n xs) (h2 : w.ownsRow b2 e2 s2 (.slice A' n' c') n' ys) (hne : e2 ≠ e1) : ∀ k ∈ blkOf A, k ∉ blkOf A' := by
  intro k hk
  rcases h1.2 with ⟨hv, _⟩ | ⟨g, cap, cur, hv, _, hg, _⟩
  · simp only [Value.slice.injEq] at hv
    rw [hv.1] at hk
    simp [blkOf] at hk
  · simp only [Value.slice.injEq] at hv
    rw [hv.1] at hk
    simp only [blkOf, List.mem_singleton] at hk
    subst hk
    exact own_ne h2 hg hne
theorem isum_drop_cons (us : List Int) (j : Nat) (x : Int) (h : us[j]? = some x) : isum (us.drop j) = x + isum (us.drop (j + 1)) := by
  obtain ⟨hl, rfl⟩ := List.getElem?_eq_some_iff.1 h
  rw [List.drop_eq_getElem_cons hl]
  rfl
theorem isum_le {l : List Int} (h : ∀ u ∈ l, 0 ≤ u ∧ u ≤ 1) : isum l ≤ l.length := by
  induction l with
  | nil => simp [isum]
  | cons a l ih =>
    have h1 := h a (by simp)
    have h2 := ih fun p hp => h p (by simp [hp])
    simp only [isum, List.length_cons]; omega
theorem per_start (s : SS) (t : Int) : (sStart s t).1.period = s.period ∧ (sStart s t).1.budget = s.budget := by
  unfold sStart; repeat' split
  all_goals exact ⟨rfl, rfl⟩
theorem per_stop (s : SS) (t : Int) : (sStopAt s t).1.period = s.period ∧ (sStopAt s t).1.budget = s.budget := by
  unfold sStopAt; repeat' split
  all_goals exact ⟨rfl, rfl⟩
theorem per_use (s : SS) : (sUse s).1.period = s.period ∧ (sUse s).1.budget = s.budget := by
  unfold sUse; repeat' split
  all_goals exact ⟨rfl, rfl⟩
attribute [local go_sem ↓] app_hide

theorem Row.keep {w0 w w' : World} {B B' g c n cu : Nat} {A UA : Option Addr} {s : SS} {xs : List Value} (hrow : w.ownsRow B' 2 1 (.slice UA n cu) n xs) (hS : Sv w B g A c s) (ho : Only (g :: blkOf A) w w') : w'.ownsRow B' 2 1 (.slice UA n cu) n xs :=
  own_only' hrow ho fun k hk hk' => by
    rcases List.mem_cons.1 hk' with rfl | hk'
    · exact own_ne hrow hS.hdr (by decide) hk
    · exact own_own_ne hrow hS.row (by decide) k hk hk'

set_option maxRecDepth 100000 in
set_option maxHeartbeats 4000000 in
theorem walk (b p m : Int) (A0 : Option Addr) (n c : Nat) (w : World) (hA : GapsAt w A0 n) (hn : n ≤ maxLen) :
    Calls Try.prog 4 #[.int .i64 b, .int .i64 p, .int .i64 m, .slice A0 n c] w fun e w' => e = .returned (.bool true) ∧ Only [] w w' := by
  have HA := hide hA
  clear hA
  by_cases hbad : b < 1 ∨ p < b ∨ 1099511627776 < p ∨ m < 1 ∨ 16 < m
  · have H := hide hbad
    clear hbad
    go_enter Try.func4, Try.ntmps4
    go_wp2_with (first
      | (go_at_call 6; refine (new_bad b p m _ H.out).mono ?_; rintro e w' ⟨rfl, rfl⟩)
      | (go_at_call 7; refine (known_any _).mono ?_; rintro e wa ⟨rfl, oa⟩))
    go_ret
    exact ⟨rfl, oa⟩
  · have h1 : 1 ≤ b := by omega
    have h2 : b ≤ p := by omega
    have h3 : p ≤ 1099511627776 := by omega
    have h4 : 1 ≤ m := by omega
    have h5 : m ≤ 16 := by omega
    clear hbad
    by_cases h200 : 1000 < n
    · have d200 : (1000 : Int) < (n : Int) := by omega
      go_enter Try.func4, Try.ntmps4
      go_wp2_with (first
        | (go_at_call 6; refine (new_good b p m _ h1 h2 h3 h4 h5).mono ?_; rintro e wn ⟨rfl, on, _⟩)
        | (go_at_call 7; refine (known_any _).mono ?_; rintro e wa ⟨rfl, oa⟩))
      go_ret
      exact ⟨rfl, on.trans0 oa⟩
    · have d200 : decide ((1000 : Int) < (n : Int)) = false := by simp; omega
      by_cases hp1 : 1000 < p
      · go_enter Try.func4, Try.ntmps4
        go_wp2_with (first
          | (go_at_call 6; refine (new_good b p m _ h1 h2 h3 h4 h5).mono ?_; rintro e wn ⟨rfl, on, _⟩)
          | (go_at_call 7; refine (known_any _).mono ?_; rintro e wa ⟨rfl, oa⟩))
        go_ret
        exact ⟨rfl, on.trans0 oa⟩
      · have dp : decide (1000 < p) = false := by simp; omega
        go_enter Try.func4, Try.ntmps4
        go_wp2_with fail
        refine (new_good b p m _ h1 h2 h3 h4 h5).mono ?_
        rintro e wn ⟨rfl, on, hn0⟩
        go_wp2_with fail
        obtain ⟨i0, hi, hz0, hz1, hz2⟩ := info_parts int_info
        have d200' : n ≤ 1000 := by omega
        have hwn := on.size
        have hpp : p ≤ 1000 := by omega
        clear d200 h200 dp hp1 h3
        go_loopw [11, 12] (fun U i wr => ∃ k : Nat, k ≤ n ∧ i = .int .i64 k ∧ ∃ (UA : Option Addr) (cu : Nat) (us : List Int) (A : Option Addr) (c : Nat) (s : SS), U = .slice UA k cu ∧ Only [] w wr ∧ Sv wr w.heap.size w.heap.size A c s ∧ wr.ownsRow w.heap.size 2 1 (.slice UA k cu) k (IV us) ∧ Hid (s.budget = b) ∧ Hid (s.period = p) ∧ Hid (Bnd k s us) ∧ Hid (us.length = k)) (fun _ i _ => n - (intOf i).toNat)
        case atStart => exact ⟨0, Nat.zero_le _, rfl, none, 0, [], none, 0, _, rfl, on, hn0, ⟨rfl, .inl ⟨rfl, rfl⟩⟩, hide rfl, hide rfl, hide (Bnd.zero b p m (by omega)), hide rfl⟩
        case round =>
          obtain ⟨k, hk, rfl, UA, cu, us, A, c, s, rfl, hO, hS, hrow, hb', hp', hBnd, hul⟩ := hrel
          by_cases hlt : k < n
          · obtain ⟨a, gb, rfl, hgw⟩ := HA.out k hlt
            have HG := hide hgw
            clear hgw
            have j0 : (0 : Int) ≤ (k : Int) := by omega
            have j1 : (k : Int) < (n : Int) := by omega
            go_wp2_with fail
            refine (due_any k hS hO.size).mono ?_
            rintro e w1 ⟨rfl, o1, ⟨A1, c1, hS1, _⟩⟩
            replace hrow := Row.keep (w0 := w) hrow hS o1
            replace hO := Sv.step hO hS (Nat.le_refl _) o1
            replace hBnd := hide (hBnd.out.weaken.due k (by omega))
            replace hb' : Hid ((sDue s k).budget = b) := hide hb'.out
            replace hp' : Hid ((sDue s k).period = p) := hide hp'.out
            replace hS := hS1
            clear o1 hS1
            generalize sDue s k = s1 at hS hBnd hb' hp'
            go_wp2_with fail
            cases hact0 : s1.active with
            | true =>
              have hact := hide hact0
              clear hact0
              have hac := active_any hS
              rw [hact.out] at hac
              refine hac.mono ?_
              clear hac
              rintro e wa ⟨rfl, ka, rfl⟩
              replace hO := hO.drewN ka
              replace hS := hS.only0 ((Only.refl [] _).drewN ka)
              replace hrow := own_only' hrow ((Only.refl [] _).drewN ka) (by simp)
              generalize w1.drewN ka = wq1 at hO hS hrow ⊢
              cases gb with
              | true =>
                have hg := hO.keep0 HG.out
                go_wp2_with fail
                clear hg
                refine (stopAt_any k hS hO.size).mono ?_
                rintro e w2 ⟨rfl, o2, ⟨A2, c2, hS2, _⟩⟩
                have hst : (sStopAt s1 k).1 = sStop s1 k := by unfold sStopAt; rw [if_pos ⟨by omega, by omega⟩, if_pos hact.out]
                rw [hst] at hS2
                replace hrow := Row.keep (w0 := w) hrow hS o2
                replace hO := Sv.step hO hS (Nat.le_refl _) o2
                replace hBnd := hide (hBnd.out.stop hS.good hact.out k).idle
                replace hact : Hid ((sStop s1 k).active = false) := hide rfl
                replace hb' : Hid ((sStop s1 k).budget = b) := hide hb'.out
                replace hp' : Hid ((sStop s1 k).period = p) := hide hp'.out
                replace hS := hS2
                clear o2 hS2 hst
                generalize sStop s1 k = s2 at hS hBnd hb' hp' hact
                have hg := hO.keep0 HG.out
                go_wp2_with fail
                clear hg
                have hac := active_any hS
                rw [hact.out] at hac
                refine hac.mono ?_
                clear hac
                rintro e wa ⟨rfl, ka, rfl⟩
                replace hO := hO.drewN ka
                replace hS := hS.only0 ((Only.refl [] _).drewN ka)
                replace hrow := own_only' hrow ((Only.refl [] _).drewN ka) (by simp)
                generalize w2.drewN ka = wx at hO hS hrow ⊢
                have hng := hide (own_ne hrow hS.hdr (by decide))
                have hnA := hide (own_own_ne hS.row hrow (by decide))
                obtain ⟨g', cap', w2, hrun, hown, ho, hgg⟩ := append_at (P := Try.prog) (wx.alloc (.cells #[.int .i64 0] 2)) w.heap.size 43 43 2 i0 (.int .i64 0) 1 8 Try.underlying43 hi hz0 hz1 hz2 rfl (by omega) UA k cu (IV us) (hrow.alloc _)
                  ⟨wx.heap.size, 0, none⟩ 1 1 [.int .i64 0] rfl (fun j u hj => by
                    have := (Blk.new wx 2 #[.int .i64 0]).cell j
                    rw [add_mk, Nat.zero_add, this, List.getElem?_toArray]
                    exact hj) (by simp [Value.oneCell']) (.inl (by omega)) (by unfold maxLen; omega) (by omega) (by have := hO.size; simp; omega)
                rw [app_hide] at hrun
                have hOa := (Only.refl [] wx).alloc (.cells #[.int .i64 0] 2)
                have hS2 := (hS.only0 hOa).only ho hng.out hnA.out
                have hO2 : Only [] w w2 := (hO.trans0 hOa).trans ho (fun x hx => .inr (own_ge hrow x hx).1)
                have hrow2 : w2.ownsRow w.heap.size 2 1 (.slice (some ⟨g', 0, none⟩) (k + 1) cap') (k + 1) (IV (us ++ [0])) := by simpa [IV] using hown
                clear hgg hown hng hnA hOa ho hrow hS
                have hgd := hide hS2.good
                have hbd := hide (hBnd.out.bound hS2.good)
                have hpos := hide hBnd.out.pos
                have hl' := hide (show (us ++ [0]).length = k + 1 by simp [hul.out])
                generalize us ++ [0] = us' at hrow2 hBnd hbd hpos hl'
                obtain ⟨g2, hg2, hcell, _⟩ := own_cell hrow2 (by omega)
                obtain rfl : g' = g2 := by simpa using hg2
                have HC := hide hcell
                clear hcell hg2
                go_wp2_with fail
                go_loopw [22, 23] (fun v i wy => ∃ j : Nat, j ≤ k + 1 ∧ k + 1 - p.toNat ≤ j ∧ i = .int .i64 ((j : Int) - 1) ∧ v = .int .i64 (isum (us'.drop j)) ∧ ∃ m, w2.drewN m = wy) (fun v i _ => (intOf i + 1).toNat)
                case atStart => exact ⟨k + 1, Nat.le_refl _, by omega, by go_num, by rw [List.drop_eq_nil_of_le (by rw [hl'.out]; exact Nat.le_refl _)]; rfl, 0, rfl⟩
                case round =>
                  obtain ⟨j, hj, hjd, rfl, rfl, mj, rfl⟩ := hrel
                  by_cases hjl : k + 1 - p.toNat < j
                  · obtain ⟨q, rfl⟩ : ∃ q, j = q + 1 := ⟨j - 1, by omega⟩
                    obtain ⟨x, hx⟩ : ∃ x, us'[q]? = some x := ⟨_, List.getElem?_eq_getElem (by rw [hl'.out]; omega)⟩
                    have hcx : w2.cell? ⟨g', q, none⟩ = some (.int .i64 x) := by
                      rw [HC.out q (by omega)]
                      simp [IV, hx]
                    have hsum := hide (isum_drop_cons us' q x hx)
                    have hx01 := hpos.out x (List.mem_of_getElem? hx)
                    have hs0 := isum_nonneg (l := us'.drop (q + 1)) fun u hu => (hpos.out u (List.mem_of_mem_drop hu)).1
                    have hs1 : isum (us'.drop (q + 1)) ≤ 1001 := by
                      have h1 := isum_le (l := us'.drop (q + 1)) fun u hu => hpos.out u (List.mem_of_mem_drop hu)
                      have h2 := hl'.out
                      rw [List.length_drop] at h1
                      omega
                    have i0 : (0 : Int) ≤ ((q + 1 : Nat) : Int) - 1 := by omega
                    have i1 : (k : Int) - p < ((q + 1 : Nat) : Int) - 1 := by omega
                    have e1 : ((q + 1 : Nat) : Int) - 1 = (q : Int) := by omega
                    rw [e1]
                    rw [e1] at i0 i1
                    have i2 : (q : Int) < ((k + 1 : Nat) : Int) := by omega
                    clear hx
                    go_wp2_with fail
                    go_roundw
                    case rel => exact ⟨q, by omega, by omega, by go_num, by rw [hsum.out]; go_num, _, rfl⟩
                    case measure => (first | (simp [intOf]; done) | (simp [intOf]; omega))
                  · obtain rfl : j = k + 1 - p.toNat := by omega
                    have hS3 := hS2.only0 ((Only.refl [] _).drewN mj)
                    have hO3 := hO2.drewN mj
                    have hrow3 := own_only' hrow2 ((Only.refl [] _).drewN mj) (by simp)
                    obtain ⟨bd1, bd2⟩ := hbd.out
                    rw [hp'.out, hb'.out] at bd1 bd2
                    have s0 := isum_nonneg (l := us'.drop (k + 1 - p.toNat)) fun u hu => (hpos.out u (List.mem_of_mem_drop hu)).1
                    have hdd : (k : Int) < p → us'.drop (k + 1 - p.toNat) = us' := fun h => by rw [show k + 1 - p.toNat = 0 by omega]; rfl
                    have bd3 : (k : Int) < p → isum (us'.drop (k + 1 - p.toNat)) ≤ b := fun h => by rw [hdd h]; exact bd2 h
                    have HB := hide bd3
                    clear bd2 bd3 hdd hbd hS2 hO2 hrow2 HC
                    generalize isum (us'.drop (k + 1 - p.toNat)) = sm at bd1 s0 HB ⊢
                    generalize w2.drewN mj = wy at hS3 hO3 hrow3 ⊢
                    have hexit : ¬ ((0 : Int) ≤ (((k + 1 - p.toNat : Nat) : Int) - 1) ∧ (k : Int) - p < (((k + 1 - p.toNat : Nat) : Int) - 1)) := by omega
                    by_cases hkp : (k : Int) < p
                    · have s1 := HB.out hkp
                      have e0 : (((k + 1 - p.toNat : Nat) : Int) - 1) = -1 := by omega
                      rw [e0]
                      clear hexit e0 HB
                      go_wp2_with fail
                      go_roundw
                      case rel => exact ⟨k + 1, by omega, by go_num, _, _, us', _, _, _, rfl, hO3, hS3, hrow3, hb', hp', hBnd, hl'⟩
                      case measure => (first | (simp [intOf]; done) | (simp [intOf]; omega))
                    · have e0 : (((k + 1 - p.toNat : Nat) : Int) - 1) = k - p := by omega
                      rw [e0]
                      clear hexit e0 HB
                      go_wp2_with fail
                      go_roundw
                      case rel => exact ⟨k + 1, by omega, by go_num, _, _, us', _, _, _, rfl, hO3, hS3, hrow3, hb', hp', hBnd, hl'⟩
                      case measure => (first | (simp [intOf]; done) | (simp [intOf]; omega))
              | false =>
                have hg := hO.keep0 HG.out
                go_wp2_with fail
                clear hg
                have hac := active_any hS
                rw [hact.out] at hac
                refine hac.mono ?_
                clear hac
                rintro e wa ⟨rfl, ka, rfl⟩
                replace hO := hO.drewN ka
                replace hS := hS.only0 ((Only.refl [] _).drewN ka)
                replace hrow := own_only' hrow ((Only.refl [] _).drewN ka) (by simp)
                generalize wq1.drewN ka = wq2 at hO hS hrow ⊢
                go_wp2_with fail
                cases hh : high s1 with
                | false =>
                  have hhigh := hide hh
                  clear hh
                  have hhi := high_any hS
                  rw [hhigh.out] at hhi
                  refine hhi.mono ?_
                  clear hhi
                  rintro e wa ⟨rfl, ka, rfl⟩
                  replace hO := hO.drewN ka
                  replace hS := hS.only0 ((Only.refl [] _).drewN ka)
                  replace hrow := own_only' hrow ((Only.refl [] _).drewN ka) (by simp)
                  generalize wq2.drewN ka = wx at hO hS hrow ⊢
                  replace hBnd := hide hBnd.out.idle
                  have hng := hide (own_ne hrow hS.hdr (by decide))
                  have hnA := hide (own_own_ne hS.row hrow (by decide))
                  obtain ⟨g', cap', w2, hrun, hown, ho, hgg⟩ := append_at (P := Try.prog) (wx.alloc (.cells #[.int .i64 0] 2)) w.heap.size 43 43 2 i0 (.int .i64 0) 1 8 Try.underlying43 hi hz0 hz1 hz2 rfl (by omega) UA k cu (IV us) (hrow.alloc _)
                    ⟨wx.heap.size, 0, none⟩ 1 1 [.int .i64 0] rfl (fun j u hj => by
                      have := (Blk.new wx 2 #[.int .i64 0]).cell j
                      rw [add_mk, Nat.zero_add, this, List.getElem?_toArray]
                      exact hj) (by simp [Value.oneCell']) (.inl (by omega)) (by unfold maxLen; omega) (by omega) (by have := hO.size; simp; omega)
                  rw [app_hide] at hrun
                  have hOa := (Only.refl [] wx).alloc (.cells #[.int .i64 0] 2)
                  have hS2 := (hS.only0 hOa).only ho hng.out hnA.out
                  have hO2 : Only [] w w2 := (hO.trans0 hOa).trans ho (fun x hx => .inr (own_ge hrow x hx).1)
                  have hrow2 : w2.ownsRow w.heap.size 2 1 (.slice (some ⟨g', 0, none⟩) (k + 1) cap') (k + 1) (IV (us ++ [0])) := by simpa [IV] using hown
                  clear hgg hown hng hnA hOa ho hrow hS
                  have hgd := hide hS2.good
                  have hbd := hide (hBnd.out.bound hS2.good)
                  have hpos := hide hBnd.out.pos
                  have hl' := hide (show (us ++ [0]).length = k + 1 by simp [hul.out])
                  generalize us ++ [0] = us' at hrow2 hBnd hbd hpos hl'
                  obtain ⟨g2, hg2, hcell, _⟩ := own_cell hrow2 (by omega)
                  obtain rfl : g' = g2 := by simpa using hg2
                  have HC := hide hcell
                  clear hcell hg2
                  go_wp2_with fail
                  go_loopw [22, 23] (fun v i wy => ∃ j : Nat, j ≤ k + 1 ∧ k + 1 - p.toNat ≤ j ∧ i = .int .i64 ((j : Int) - 1) ∧ v = .int .i64 (isum (us'.drop j)) ∧ ∃ m, w2.drewN m = wy) (fun v i _ => (intOf i + 1).toNat)
                  case atStart => exact ⟨k + 1, Nat.le_refl _, by omega, by go_num, by rw [List.drop_eq_nil_of_le (by rw [hl'.out]; exact Nat.le_refl _)]; rfl, 0, rfl⟩
                  case round =>
                    obtain ⟨j, hj, hjd, rfl, rfl, mj, rfl⟩ := hrel
                    by_cases hjl : k + 1 - p.toNat < j
                    · obtain ⟨q, rfl⟩ : ∃ q, j = q + 1 := ⟨j - 1, by omega⟩
                      obtain ⟨x, hx⟩ : ∃ x, us'[q]? = some x := ⟨_, List.getElem?_eq_getElem (by rw [hl'.out]; omega)⟩
                      have hcx : w2.cell? ⟨g', q, none⟩ = some (.int .i64 x) := by
                        rw [HC.out q (by omega)]
                        simp [IV, hx]
                      have hsum := hide (isum_drop_cons us' q x hx)
                      have hx01 := hpos.out x (List.mem_of_getElem? hx)
                      have hs0 := isum_nonneg (l := us'.drop (q + 1)) fun u hu => (hpos.out u (List.mem_of_mem_drop hu)).1
                      have hs1 : isum (us'.drop (q + 1)) ≤ 1001 := by
                        have h1 := isum_le (l := us'.drop (q + 1)) fun u hu => hpos.out u (List.mem_of_mem_drop hu)
                        have h2 := hl'.out
                        rw [List.length_drop] at h1
                        omega
                      have i0 : (0 : Int) ≤ ((q + 1 : Nat) : Int) - 1 := by omega
                      have i1 : (k : Int) - p < ((q + 1 : Nat) : Int) - 1 := by omega
                      have e1 : ((q + 1 : Nat) : Int) - 1 = (q : Int) := by omega
                      rw [e1]
                      rw [e1] at i0 i1
                      have i2 : (q : Int) < ((k + 1 : Nat) : Int) := by omega
                      clear hx
                      go_wp2_with fail
                      go_roundw
                      case rel => exact ⟨q, by omega, by omega, by go_num, by rw [hsum.out]; go_num, _, rfl⟩
                      case measure => (first | (simp [intOf]; done) | (simp [intOf]; omega))
                    · obtain rfl : j = k + 1 - p.toNat := by omega
                      have hS3 := hS2.only0 ((Only.refl [] _).drewN mj)
                      have hO3 := hO2.drewN mj
                      have hrow3 := own_only' hrow2 ((Only.refl [] _).drewN mj) (by simp)
                      obtain ⟨bd1, bd2⟩ := hbd.out
                      rw [hp'.out, hb'.out] at bd1 bd2
                      have s0 := isum_nonneg (l := us'.drop (k + 1 - p.toNat)) fun u hu => (hpos.out u (List.mem_of_mem_drop hu)).1
                      have hdd : (k : Int) < p → us'.drop (k + 1 - p.toNat) = us' := fun h => by rw [show k + 1 - p.toNat = 0 by omega]; rfl
                      have bd3 : (k : Int) < p → isum (us'.drop (k + 1 - p.toNat)) ≤ b := fun h => by rw [hdd h]; exact bd2 h
                      have HB := hide bd3
                      clear bd2 bd3 hdd hbd hS2 hO2 hrow2 HC
                      generalize isum (us'.drop (k + 1 - p.toNat)) = sm at bd1 s0 HB ⊢
                      generalize w2.drewN mj = wy at hS3 hO3 hrow3 ⊢
                      have hexit : ¬ ((0 : Int) ≤ (((k + 1 - p.toNat : Nat) : Int) - 1) ∧ (k : Int) - p < (((k + 1 - p.toNat : Nat) : Int) - 1)) := by omega
                      by_cases hkp : (k : Int) < p
                      · have s1 := HB.out hkp
                        have e0 : (((k + 1 - p.toNat : Nat) : Int) - 1) = -1 := by omega
                        rw [e0]
                        clear hexit e0 HB
                        go_wp2_with fail
                        go_roundw
                        case rel => exact ⟨k + 1, by omega, by go_num, _, _, us', _, _, _, rfl, hO3, hS3, hrow3, hb', hp', hBnd, hl'⟩
                        case measure => (first | (simp [intOf]; done) | (simp [intOf]; omega))
                      · have e0 : (((k + 1 - p.toNat : Nat) : Int) - 1) = k - p := by omega
                        rw [e0]
                        clear hexit e0 HB
                        go_wp2_with fail
                        go_roundw
                        case rel => exact ⟨k + 1, by omega, by go_num, _, _, us', _, _, _, rfl, hO3, hS3, hrow3, hb', hp', hBnd, hl'⟩
                        case measure => (first | (simp [intOf]; done) | (simp [intOf]; omega))
                | true =>
                  have hhigh := hide hh
                  clear hh
                  have hhi := high_any hS
                  rw [hhigh.out] at hhi
                  refine hhi.mono ?_
                  clear hhi
                  rintro e wa ⟨rfl, ka, rfl⟩
                  replace hO := hO.drewN ka
                  replace hS := hS.only0 ((Only.refl [] _).drewN ka)
                  replace hrow := own_only' hrow ((Only.refl [] _).drewN ka) (by simp)
                  generalize wq2.drewN ka = wq3 at hO hS hrow ⊢
                  go_wp2_with fail
                  obtain ⟨hu0, hBu⟩ := hBnd.out.use hul.out hS.good hact.out hhigh.out
                  have hus := use_any hS hO.size
                  rw [hu0] at hus
                  refine hus.mono ?_
                  clear hus hu0 hBnd
                  rintro e wx ⟨rfl, o2, ⟨A2, c2, hS2, _⟩⟩
                  replace hrow := Row.keep (w0 := w) hrow hS o2
                  replace hO := Sv.step hO hS (Nat.le_refl _) o2
                  have hBnd := hide hBu
                  replace hb' := hide ((per_use s1).2.trans hb'.out)
                  replace hp' := hide ((per_use s1).1.trans hp'.out)
                  replace hS := hS2
                  clear o2 hS2 hBu hact hhigh
                  generalize (sUse s1).1 = s3 at hS hBnd hb' hp'
                  have hng := hide (own_ne hrow hS.hdr (by decide))
                  have hnA := hide (own_own_ne hS.row hrow (by decide))
                  obtain ⟨g', cap', w2, hrun, hown, ho, hgg⟩ := append_at (P := Try.prog) (wx.alloc (.cells #[.int .i64 1] 2)) w.heap.size 43 43 2 i0 (.int .i64 0) 1 8 Try.underlying43 hi hz0 hz1 hz2 rfl (by omega) UA k cu (IV us) (hrow.alloc _)
                    ⟨wx.heap.size, 0, none⟩ 1 1 [.int .i64 1] rfl (fun j u hj => by
                      have := (Blk.new wx 2 #[.int .i64 1]).cell j
                      rw [add_mk, Nat.zero_add, this, List.getElem?_toArray]
                      exact hj) (by simp [Value.oneCell']) (.inl (by omega)) (by unfold maxLen; omega) (by omega) (by have := hO.size; simp; omega)
                  rw [app_hide] at hrun
                  have hOa := (Only.refl [] wx).alloc (.cells #[.int .i64 1] 2)
                  have hS2 := (hS.only0 hOa).only ho hng.out hnA.out
                  have hO2 : Only [] w w2 := (hO.trans0 hOa).trans ho (fun x hx => .inr (own_ge hrow x hx).1)
                  have hrow2 : w2.ownsRow w.heap.size 2 1 (.slice (some ⟨g', 0, none⟩) (k + 1) cap') (k + 1) (IV (us ++ [1])) := by simpa [IV] using hown
                  clear hgg hown hng hnA hOa ho hrow hS
                  have hgd := hide hS2.good
                  have hbd := hide (hBnd.out.bound hS2.good)
                  have hpos := hide hBnd.out.pos
                  have hl' := hide (show (us ++ [1]).length = k + 1 by simp [hul.out])
                  generalize us ++ [1] = us' at hrow2 hBnd hbd hpos hl'
                  obtain ⟨g2, hg2, hcell, _⟩ := own_cell hrow2 (by omega)
                  obtain rfl : g' = g2 := by simpa using hg2
                  have HC := hide hcell
                  clear hcell hg2
                  go_wp2_with fail
                  go_loopw [22, 23] (fun v i wy => ∃ j : Nat, j ≤ k + 1 ∧ k + 1 - p.toNat ≤ j ∧ i = .int .i64 ((j : Int) - 1) ∧ v = .int .i64 (isum (us'.drop j)) ∧ ∃ m, w2.drewN m = wy) (fun v i _ => (intOf i + 1).toNat)
                  case atStart => exact ⟨k + 1, Nat.le_refl _, by omega, by go_num, by rw [List.drop_eq_nil_of_le (by rw [hl'.out]; exact Nat.le_refl _)]; rfl, 0, rfl⟩
                  case round =>
                    obtain ⟨j, hj, hjd, rfl, rfl, mj, rfl⟩ := hrel
                    by_cases hjl : k + 1 - p.toNat < j
                    · obtain ⟨q, rfl⟩ : ∃ q, j = q + 1 := ⟨j - 1, by omega⟩
                      obtain ⟨x, hx⟩ : ∃ x, us'[q]? = some x := ⟨_, List.getElem?_eq_getElem (by rw [hl'.out]; omega)⟩
                      have hcx : w2.cell? ⟨g', q, none⟩ = some (.int .i64 x) := by
                        rw [HC.out q (by omega)]
                        simp [IV, hx]
                      have hsum := hide (isum_drop_cons us' q x hx)
                      have hx01 := hpos.out x (List.mem_of_getElem? hx)
                      have hs0 := isum_nonneg (l := us'.drop (q + 1)) fun u hu => (hpos.out u (List.mem_of_mem_drop hu)).1
                      have hs1 : isum (us'.drop (q + 1)) ≤ 1001 := by
                        have h1 := isum_le (l := us'.drop (q + 1)) fun u hu => hpos.out u (List.mem_of_mem_drop hu)
                        have h2 := hl'.out
                        rw [List.length_drop] at h1
                        omega
                      have i0 : (0 : Int) ≤ ((q + 1 : Nat) : Int) - 1 := by omega
                      have i1 : (k : Int) - p < ((q + 1 : Nat) : Int) - 1 := by omega
                      have e1 : ((q + 1 : Nat) : Int) - 1 = (q : Int) := by omega
                      rw [e1]
                      rw [e1] at i0 i1
                      have i2 : (q : Int) < ((k + 1 : Nat) : Int) := by omega
                      clear hx
                      go_wp2_with fail
                      go_roundw
                      case rel => exact ⟨q, by omega, by omega, by go_num, by rw [hsum.out]; go_num, _, rfl⟩
                      case measure => (first | (simp [intOf]; done) | (simp [intOf]; omega))
                    · obtain rfl : j = k + 1 - p.toNat := by omega
                      have hS3 := hS2.only0 ((Only.refl [] _).drewN mj)
                      have hO3 := hO2.drewN mj
                      have hrow3 := own_only' hrow2 ((Only.refl [] _).drewN mj) (by simp)
                      obtain ⟨bd1, bd2⟩ := hbd.out
                      rw [hp'.out, hb'.out] at bd1 bd2
                      have s0 := isum_nonneg (l := us'.drop (k + 1 - p.toNat)) fun u hu => (hpos.out u (List.mem_of_mem_drop hu)).1
                      have hdd : (k : Int) < p → us'.drop (k + 1 - p.toNat) = us' := fun h => by rw [show k + 1 - p.toNat = 0 by omega]; rfl
                      have bd3 : (k : Int) < p → isum (us'.drop (k + 1 - p.toNat)) ≤ b := fun h => by rw [hdd h]; exact bd2 h
                      have HB := hide bd3
                      clear bd2 bd3 hdd hbd hS2 hO2 hrow2 HC
                      generalize isum (us'.drop (k + 1 - p.toNat)) = sm at bd1 s0 HB ⊢
                      generalize w2.drewN mj = wy at hS3 hO3 hrow3 ⊢
                      have hexit : ¬ ((0 : Int) ≤ (((k + 1 - p.toNat : Nat) : Int) - 1) ∧ (k : Int) - p < (((k + 1 - p.toNat : Nat) : Int) - 1)) := by omega
                      by_cases hkp : (k : Int) < p
                      · have s1 := HB.out hkp
                        have e0 : (((k + 1 - p.toNat : Nat) : Int) - 1) = -1 := by omega
                        rw [e0]
                        clear hexit e0 HB
                        go_wp2_with fail
                        go_roundw
                        case rel => exact ⟨k + 1, by omega, by go_num, _, _, us', _, _, _, rfl, hO3, hS3, hrow3, hb', hp', hBnd, hl'⟩
                        case measure => (first | (simp [intOf]; done) | (simp [intOf]; omega))
                      · have e0 : (((k + 1 - p.toNat : Nat) : Int) - 1) = k - p := by omega
                        rw [e0]
                        clear hexit e0 HB
                        go_wp2_with fail
                        go_roundw
                        case rel => exact ⟨k + 1, by omega, by go_num, _, _, us', _, _, _, rfl, hO3, hS3, hrow3, hb', hp', hBnd, hl'⟩
                        case measure => (first | (simp [intOf]; done) | (simp [intOf]; omega))
            | false =>
              have hact := hide hact0
              clear hact0
              have hac := active_any hS
              rw [hact.out] at hac
              refine hac.mono ?_
              clear hac
              rintro e wa ⟨rfl, ka, rfl⟩
              replace hO := hO.drewN ka
              replace hS := hS.only0 ((Only.refl [] _).drewN ka)
              replace hrow := own_only' hrow ((Only.refl [] _).drewN ka) (by simp)
              generalize w1.drewN ka = wq1 at hO hS hrow ⊢
              cases gb with
              | true =>
                have hg := hO.keep0 HG.out
                go_wp2_with fail
                clear hg
                have hac := active_any hS
                rw [hact.out] at hac
                refine hac.mono ?_
                clear hac
                rintro e wa ⟨rfl, ka, rfl⟩
                replace hO := hO.drewN ka
                replace hS := hS.only0 ((Only.refl [] _).drewN ka)
                replace hrow := own_only' hrow ((Only.refl [] _).drewN ka) (by simp)
                generalize wq1.drewN ka = wx at hO hS hrow ⊢
                replace hBnd := hide hBnd.out.idle
                have hng := hide (own_ne hrow hS.hdr (by decide))
                have hnA := hide (own_own_ne hS.row hrow (by decide))
                obtain ⟨g', cap', w2, hrun, hown, ho, hgg⟩ := append_at (P := Try.prog) (wx.alloc (.cells #[.int .i64 0] 2)) w.heap.size 43 43 2 i0 (.int .i64 0) 1 8 Try.underlying43 hi hz0 hz1 hz2 rfl (by omega) UA k cu (IV us) (hrow.alloc _)
                  ⟨wx.heap.size, 0, none⟩ 1 1 [.int .i64 0] rfl (fun j u hj => by
                    have := (Blk.new wx 2 #[.int .i64 0]).cell j
                    rw [add_mk, Nat.zero_add, this, List.getElem?_toArray]
                    exact hj) (by simp [Value.oneCell']) (.inl (by omega)) (by unfold maxLen; omega) (by omega) (by have := hO.size; simp; omega)
                rw [app_hide] at hrun
                have hOa := (Only.refl [] wx).alloc (.cells #[.int .i64 0] 2)
                have hS2 := (hS.only0 hOa).only ho hng.out hnA.out
                have hO2 : Only [] w w2 := (hO.trans0 hOa).trans ho (fun x hx => .inr (own_ge hrow x hx).1)
                have hrow2 : w2.ownsRow w.heap.size 2 1 (.slice (some ⟨g', 0, none⟩) (k + 1) cap') (k + 1) (IV (us ++ [0])) := by simpa [IV] using hown
                clear hgg hown hng hnA hOa ho hrow hS
                have hgd := hide hS2.good
                have hbd := hide (hBnd.out.bound hS2.good)
                have hpos := hide hBnd.out.pos
                have hl' := hide (show (us ++ [0]).length = k + 1 by simp [hul.out])
                generalize us ++ [0] = us' at hrow2 hBnd hbd hpos hl'
                obtain ⟨g2, hg2, hcell, _⟩ := own_cell hrow2 (by omega)
                obtain rfl : g' = g2 := by simpa using hg2
                have HC := hide hcell
                clear hcell hg2
                go_wp2_with fail
                go_loopw [22, 23] (fun v i wy => ∃ j : Nat, j ≤ k + 1 ∧ k + 1 - p.toNat ≤ j ∧ i = .int .i64 ((j : Int) - 1) ∧ v = .int .i64 (isum (us'.drop j)) ∧ ∃ m, w2.drewN m = wy) (fun v i _ => (intOf i + 1).toNat)
                case atStart => exact ⟨k + 1, Nat.le_refl _, by omega, by go_num, by rw [List.drop_eq_nil_of_le (by rw [hl'.out]; exact Nat.le_refl _)]; rfl, 0, rfl⟩
                case round =>
                  obtain ⟨j, hj, hjd, rfl, rfl, mj, rfl⟩ := hrel
                  by_cases hjl : k + 1 - p.toNat < j
                  · obtain ⟨q, rfl⟩ : ∃ q, j = q + 1 := ⟨j - 1, by omega⟩
                    obtain ⟨x, hx⟩ : ∃ x, us'[q]? = some x := ⟨_, List.getElem?_eq_getElem (by rw [hl'.out]; omega)⟩
                    have hcx : w2.cell? ⟨g', q, none⟩ = some (.int .i64 x) := by
                      rw [HC.out q (by omega)]
                      simp [IV, hx]
                    have hsum := hide (isum_drop_cons us' q x hx)
                    have hx01 := hpos.out x (List.mem_of_getElem? hx)
                    have hs0 := isum_nonneg (l := us'.drop (q + 1)) fun u hu => (hpos.out u (List.mem_of_mem_drop hu)).1
                    have hs1 : isum (us'.drop (q + 1)) ≤ 1001 := by
                      have h1 := isum_le (l := us'.drop (q + 1)) fun u hu => hpos.out u (List.mem_of_mem_drop hu)
                      have h2 := hl'.out
                      rw [List.length_drop] at h1
                      omega
                    have i0 : (0 : Int) ≤ ((q + 1 : Nat) : Int) - 1 := by omega
                    have i1 : (k : Int) - p < ((q + 1 : Nat) : Int) - 1 := by omega
                    have e1 : ((q + 1 : Nat) : Int) - 1 = (q : Int) := by omega
                    rw [e1]
                    rw [e1] at i0 i1
                    have i2 : (q : Int) < ((k + 1 : Nat) : Int) := by omega
                    clear hx
                    go_wp2_with fail
                    go_roundw
                    case rel => exact ⟨q, by omega, by omega, by go_num, by rw [hsum.out]; go_num, _, rfl⟩
                    case measure => (first | (simp [intOf]; done) | (simp [intOf]; omega))
                  · obtain rfl : j = k + 1 - p.toNat := by omega
                    have hS3 := hS2.only0 ((Only.refl [] _).drewN mj)
                    have hO3 := hO2.drewN mj
                    have hrow3 := own_only' hrow2 ((Only.refl [] _).drewN mj) (by simp)
                    obtain ⟨bd1, bd2⟩ := hbd.out
                    rw [hp'.out, hb'.out] at bd1 bd2
                    have s0 := isum_nonneg (l := us'.drop (k + 1 - p.toNat)) fun u hu => (hpos.out u (List.mem_of_mem_drop hu)).1
                    have hdd : (k : Int) < p → us'.drop (k + 1 - p.toNat) = us' := fun h => by rw [show k + 1 - p.toNat = 0 by omega]; rfl
                    have bd3 : (k : Int) < p → isum (us'.drop (k + 1 - p.toNat)) ≤ b := fun h => by rw [hdd h]; exact bd2 h
                    have HB := hide bd3
                    clear bd2 bd3 hdd hbd hS2 hO2 hrow2 HC
                    generalize isum (us'.drop (k + 1 - p.toNat)) = sm at bd1 s0 HB ⊢
                    generalize w2.drewN mj = wy at hS3 hO3 hrow3 ⊢
                    have hexit : ¬ ((0 : Int) ≤ (((k + 1 - p.toNat : Nat) : Int) - 1) ∧ (k : Int) - p < (((k + 1 - p.toNat : Nat) : Int) - 1)) := by omega
                    by_cases hkp : (k : Int) < p
                    · have s1 := HB.out hkp
                      have e0 : (((k + 1 - p.toNat : Nat) : Int) - 1) = -1 := by omega
                      rw [e0]
                      clear hexit e0 HB
                      go_wp2_with fail
                      go_roundw
                      case rel => exact ⟨k + 1, by omega, by go_num, _, _, us', _, _, _, rfl, hO3, hS3, hrow3, hb', hp', hBnd, hl'⟩
                      case measure => (first | (simp [intOf]; done) | (simp [intOf]; omega))
                    · have e0 : (((k + 1 - p.toNat : Nat) : Int) - 1) = k - p := by omega
                      rw [e0]
                      clear hexit e0 HB
                      go_wp2_with fail
                      go_roundw
                      case rel => exact ⟨k + 1, by omega, by go_num, _, _, us', _, _, _, rfl, hO3, hS3, hrow3, hb', hp', hBnd, hl'⟩
                      case measure => (first | (simp [intOf]; done) | (simp [intOf]; omega))
              | false =>
                have hg := hO.keep0 HG.out
                go_wp2_with fail
                clear hg
                cases hh : high s1 with
                | false =>
                  have hhigh := hide hh
                  clear hh
                  have hhi := high_any hS
                  rw [hhigh.out] at hhi
                  refine hhi.mono ?_
                  clear hhi
                  rintro e wa ⟨rfl, ka, rfl⟩
                  replace hO := hO.drewN ka
                  replace hS := hS.only0 ((Only.refl [] _).drewN ka)
                  replace hrow := own_only' hrow ((Only.refl [] _).drewN ka) (by simp)
                  generalize wq1.drewN ka = wq2 at hO hS hrow ⊢
                  go_wp2_with fail
                  have hac := active_any hS
                  rw [hact.out] at hac
                  refine hac.mono ?_
                  clear hac
                  rintro e wa ⟨rfl, ka, rfl⟩
                  replace hO := hO.drewN ka
                  replace hS := hS.only0 ((Only.refl [] _).drewN ka)
                  replace hrow := own_only' hrow ((Only.refl [] _).drewN ka) (by simp)
                  generalize wq2.drewN ka = wx at hO hS hrow ⊢
                  replace hBnd := hide hBnd.out.idle
                  have hng := hide (own_ne hrow hS.hdr (by decide))
                  have hnA := hide (own_own_ne hS.row hrow (by decide))
                  obtain ⟨g', cap', w2, hrun, hown, ho, hgg⟩ := append_at (P := Try.prog) (wx.alloc (.cells #[.int .i64 0] 2)) w.heap.size 43 43 2 i0 (.int .i64 0) 1 8 Try.underlying43 hi hz0 hz1 hz2 rfl (by omega) UA k cu (IV us) (hrow.alloc _)
                    ⟨wx.heap.size, 0, none⟩ 1 1 [.int .i64 0] rfl (fun j u hj => by
                      have := (Blk.new wx 2 #[.int .i64 0]).cell j
                      rw [add_mk, Nat.zero_add, this, List.getElem?_toArray]
                      exact hj) (by simp [Value.oneCell']) (.inl (by omega)) (by unfold maxLen; omega) (by omega) (by have := hO.size; simp; omega)
                  rw [app_hide] at hrun
                  have hOa := (Only.refl [] wx).alloc (.cells #[.int .i64 0] 2)
                  have hS2 := (hS.only0 hOa).only ho hng.out hnA.out
                  have hO2 : Only [] w w2 := (hO.trans0 hOa).trans ho (fun x hx => .inr (own_ge hrow x hx).1)
                  have hrow2 : w2.ownsRow w.heap.size 2 1 (.slice (some ⟨g', 0, none⟩) (k + 1) cap') (k + 1) (IV (us ++ [0])) := by simpa [IV] using hown
                  clear hgg hown hng hnA hOa ho hrow hS
                  have hgd := hide hS2.good
                  have hbd := hide (hBnd.out.bound hS2.good)
                  have hpos := hide hBnd.out.pos
                  have hl' := hide (show (us ++ [0]).length = k + 1 by simp [hul.out])
                  generalize us ++ [0] = us' at hrow2 hBnd hbd hpos hl'
                  obtain ⟨g2, hg2, hcell, _⟩ := own_cell hrow2 (by omega)
                  obtain rfl : g' = g2 := by simpa using hg2
                  have HC := hide hcell
                  clear hcell hg2
                  go_wp2_with fail
                  go_loopw [22, 23] (fun v i wy => ∃ j : Nat, j ≤ k + 1 ∧ k + 1 - p.toNat ≤ j ∧ i = .int .i64 ((j : Int) - 1) ∧ v = .int .i64 (isum (us'.drop j)) ∧ ∃ m, w2.drewN m = wy) (fun v i _ => (intOf i + 1).toNat)
                  case atStart => exact ⟨k + 1, Nat.le_refl _, by omega, by go_num, by rw [List.drop_eq_nil_of_le (by rw [hl'.out]; exact Nat.le_refl _)]; rfl, 0, rfl⟩
                  case round =>
                    obtain ⟨j, hj, hjd, rfl, rfl, mj, rfl⟩ := hrel
                    by_cases hjl : k + 1 - p.toNat < j
                    · obtain ⟨q, rfl⟩ : ∃ q, j = q + 1 := ⟨j - 1, by omega⟩
                      obtain ⟨x, hx⟩ : ∃ x, us'[q]? = some x := ⟨_, List.getElem?_eq_getElem (by rw [hl'.out]; omega)⟩
                      have hcx : w2.cell? ⟨g', q, none⟩ = some (.int .i64 x) := by
                        rw [HC.out q (by omega)]
                        simp [IV, hx]
                      have hsum := hide (isum_drop_cons us' q x hx)
                      have hx01 := hpos.out x (List.mem_of_getElem? hx)
                      have hs0 := isum_nonneg (l := us'.drop (q + 1)) fun u hu => (hpos.out u (List.mem_of_mem_drop hu)).1
                      have hs1 : isum (us'.drop (q + 1)) ≤ 1001 := by
                        have h1 := isum_le (l := us'.drop (q + 1)) fun u hu => hpos.out u (List.mem_of_mem_drop hu)
                        have h2 := hl'.out
                        rw [List.length_drop] at h1
                        omega
                      have i0 : (0 : Int) ≤ ((q + 1 : Nat) : Int) - 1 := by omega
                      have i1 : (k : Int) - p < ((q + 1 : Nat) : Int) - 1 := by omega
                      have e1 : ((q + 1 : Nat) : Int) - 1 = (q : Int) := by omega
                      rw [e1]
                      rw [e1] at i0 i1
                      have i2 : (q : Int) < ((k + 1 : Nat) : Int) := by omega
                      clear hx
                      go_wp2_with fail
                      go_roundw
                      case rel => exact ⟨q, by omega, by omega, by go_num, by rw [hsum.out]; go_num, _, rfl⟩
                      case measure => (first | (simp [intOf]; done) | (simp [intOf]; omega))
                    · obtain rfl : j = k + 1 - p.toNat := by omega
                      have hS3 := hS2.only0 ((Only.refl [] _).drewN mj)
                      have hO3 := hO2.drewN mj
                      have hrow3 := own_only' hrow2 ((Only.refl [] _).drewN mj) (by simp)
                      obtain ⟨bd1, bd2⟩ := hbd.out
                      rw [hp'.out, hb'.out] at bd1 bd2
                      have s0 := isum_nonneg (l := us'.drop (k + 1 - p.toNat)) fun u hu => (hpos.out u (List.mem_of_mem_drop hu)).1
                      have hdd : (k : Int) < p → us'.drop (k + 1 - p.toNat) = us' := fun h => by rw [show k + 1 - p.toNat = 0 by omega]; rfl
                      have bd3 : (k : Int) < p → isum (us'.drop (k + 1 - p.toNat)) ≤ b := fun h => by rw [hdd h]; exact bd2 h
                      have HB := hide bd3
                      clear bd2 bd3 hdd hbd hS2 hO2 hrow2 HC
                      generalize isum (us'.drop (k + 1 - p.toNat)) = sm at bd1 s0 HB ⊢
                      generalize w2.drewN mj = wy at hS3 hO3 hrow3 ⊢
                      have hexit : ¬ ((0 : Int) ≤ (((k + 1 - p.toNat : Nat) : Int) - 1) ∧ (k : Int) - p < (((k + 1 - p.toNat : Nat) : Int) - 1)) := by omega
                      by_cases hkp : (k : Int) < p
                      · have s1 := HB.out hkp
                        have e0 : (((k + 1 - p.toNat : Nat) : Int) - 1) = -1 := by omega
                        rw [e0]
                        clear hexit e0 HB
                        go_wp2_with fail
                        go_roundw
                        case rel => exact ⟨k + 1, by omega, by go_num, _, _, us', _, _, _, rfl, hO3, hS3, hrow3, hb', hp', hBnd, hl'⟩
                        case measure => (first | (simp [intOf]; done) | (simp [intOf]; omega))
                      · have e0 : (((k + 1 - p.toNat : Nat) : Int) - 1) = k - p := by omega
                        rw [e0]
                        clear hexit e0 HB
                        go_wp2_with fail
                        go_roundw
                        case rel => exact ⟨k + 1, by omega, by go_num, _, _, us', _, _, _, rfl, hO3, hS3, hrow3, hb', hp', hBnd, hl'⟩
                        case measure => (first | (simp [intOf]; done) | (simp [intOf]; omega))
                | true =>
                  have hhigh := hide hh
                  clear hh
                  have hhi := high_any hS
                  rw [hhigh.out] at hhi
                  refine hhi.mono ?_
                  clear hhi
                  rintro e wa ⟨rfl, ka, rfl⟩
                  replace hO := hO.drewN ka
                  replace hS := hS.only0 ((Only.refl [] _).drewN ka)
                  replace hrow := own_only' hrow ((Only.refl [] _).drewN ka) (by simp)
                  generalize wq1.drewN ka = wq2 at hO hS hrow ⊢
                  go_wp2_with fail
                  refine (start_any k hS).mono ?_
                  rintro e w3 ⟨rfl, o3, hS3⟩
                  replace hrow := Row.keep (w0 := w) hrow hS (o3.mono (by simp))
                  replace hO := Sv.step hO hS (Nat.le_refl _) (o3.mono (by simp))
                  replace hBnd := hide (hBnd.out.start hul.out hS.good hact.out (by omega))
                  have hst : (sStart s1 k).1.active = true ∧ high (sStart s1 k).1 = high s1 := by unfold sStart; rw [if_pos ⟨by omega, by omega⟩, if_neg (by rw [hact.out]; decide)]; exact ⟨rfl, rfl⟩
                  replace hact := hide hst.1
                  replace hhigh := hide (hst.2.trans hhigh.out)
                  replace hb' := hide ((per_start s1 k).2.trans hb'.out)
                  replace hp' := hide ((per_start s1 k).1.trans hp'.out)
                  replace hS := hS3
                  clear o3 hS3 hst
                  generalize (sStart s1 k).1 = s2 at hS hBnd hb' hp' hact hhigh
                  go_wp2_with fail
                  have hac := active_any hS
                  rw [hact.out] at hac
                  refine hac.mono ?_
                  clear hac
                  rintro e wa ⟨rfl, ka, rfl⟩
                  replace hO := hO.drewN ka
                  replace hS := hS.only0 ((Only.refl [] _).drewN ka)
                  replace hrow := own_only' hrow ((Only.refl [] _).drewN ka) (by simp)
                  generalize w3.drewN ka = wq3 at hO hS hrow ⊢
                  go_wp2_with fail
                  have hhi := high_any hS
                  rw [hhigh.out] at hhi
                  refine hhi.mono ?_
                  clear hhi
                  rintro e wa ⟨rfl, ka, rfl⟩
                  replace hO := hO.drewN ka
                  replace hS := hS.only0 ((Only.refl [] _).drewN ka)
                  replace hrow := own_only' hrow ((Only.refl [] _).drewN ka) (by simp)
                  generalize wq3.drewN ka = wq4 at hO hS hrow ⊢
                  go_wp2_with fail
                  obtain ⟨hu0, hBu⟩ := hBnd.out.use hul.out hS.good hact.out hhigh.out
                  have hus := use_any hS hO.size
                  rw [hu0] at hus
                  refine hus.mono ?_
                  clear hus hu0 hBnd
                  rintro e wx ⟨rfl, o2, ⟨A2, c2, hS2, _⟩⟩
                  replace hrow := Row.keep (w0 := w) hrow hS o2
                  replace hO := Sv.step hO hS (Nat.le_refl _) o2
                  have hBnd := hide hBu
                  replace hb' := hide ((per_use s2).2.trans hb'.out)
                  replace hp' := hide ((per_use s2).1.trans hp'.out)
                  replace hS := hS2
                  clear o2 hS2 hBu hact hhigh
                  generalize (sUse s2).1 = s3 at hS hBnd hb' hp'
                  have hng := hide (own_ne hrow hS.hdr (by decide))
                  have hnA := hide (own_own_ne hS.row hrow (by decide))
                  obtain ⟨g', cap', w2, hrun, hown, ho, hgg⟩ := append_at (P := Try.prog) (wx.alloc (.cells #[.int .i64 1] 2)) w.heap.size 43 43 2 i0 (.int .i64 0) 1 8 Try.underlying43 hi hz0 hz1 hz2 rfl (by omega) UA k cu (IV us) (hrow.alloc _)
                    ⟨wx.heap.size, 0, none⟩ 1 1 [.int .i64 1] rfl (fun j u hj => by
                      have := (Blk.new wx 2 #[.int .i64 1]).cell j
                      rw [add_mk, Nat.zero_add, this, List.getElem?_toArray]
                      exact hj) (by simp [Value.oneCell']) (.inl (by omega)) (by unfold maxLen; omega) (by omega) (by have := hO.size; simp; omega)
                  rw [app_hide] at hrun
                  have hOa := (Only.refl [] wx).alloc (.cells #[.int .i64 1] 2)
                  have hS2 := (hS.only0 hOa).only ho hng.out hnA.out
                  have hO2 : Only [] w w2 := (hO.trans0 hOa).trans ho (fun x hx => .inr (own_ge hrow x hx).1)
                  have hrow2 : w2.ownsRow w.heap.size 2 1 (.slice (some ⟨g', 0, none⟩) (k + 1) cap') (k + 1) (IV (us ++ [1])) := by simpa [IV] using hown
                  clear hgg hown hng hnA hOa ho hrow hS
                  have hgd := hide hS2.good
                  have hbd := hide (hBnd.out.bound hS2.good)
                  have hpos := hide hBnd.out.pos
                  have hl' := hide (show (us ++ [1]).length = k + 1 by simp [hul.out])
                  generalize us ++ [1] = us' at hrow2 hBnd hbd hpos hl'
                  obtain ⟨g2, hg2, hcell, _⟩ := own_cell hrow2 (by omega)
                  obtain rfl : g' = g2 := by simpa using hg2
                  have HC := hide hcell
                  clear hcell hg2
                  go_wp2_with fail
                  go_loopw [22, 23] (fun v i wy => ∃ j : Nat, j ≤ k + 1 ∧ k + 1 - p.toNat ≤ j ∧ i = .int .i64 ((j : Int) - 1) ∧ v = .int .i64 (isum (us'.drop j)) ∧ ∃ m, w2.drewN m = wy) (fun v i _ => (intOf i + 1).toNat)
                  case atStart => exact ⟨k + 1, Nat.le_refl _, by omega, by go_num, by rw [List.drop_eq_nil_of_le (by rw [hl'.out]; exact Nat.le_refl _)]; rfl, 0, rfl⟩
                  case round =>
                    obtain ⟨j, hj, hjd, rfl, rfl, mj, rfl⟩ := hrel
                    by_cases hjl : k + 1 - p.toNat < j
                    · obtain ⟨q, rfl⟩ : ∃ q, j = q + 1 := ⟨j - 1, by omega⟩
                      obtain ⟨x, hx⟩ : ∃ x, us'[q]? = some x := ⟨_, List.getElem?_eq_getElem (by rw [hl'.out]; omega)⟩
                      have hcx : w2.cell? ⟨g', q, none⟩ = some (.int .i64 x) := by
                        rw [HC.out q (by omega)]
                        simp [IV, hx]
                      have hsum := hide (isum_drop_cons us' q x hx)
                      have hx01 := hpos.out x (List.mem_of_getElem? hx)
                      have hs0 := isum_nonneg (l := us'.drop (q + 1)) fun u hu => (hpos.out u (List.mem_of_mem_drop hu)).1
                      have hs1 : isum (us'.drop (q + 1)) ≤ 1001 := by
                        have h1 := isum_le (l := us'.drop (q + 1)) fun u hu => hpos.out u (List.mem_of_mem_drop hu)
                        have h2 := hl'.out
                        rw [List.length_drop] at h1
                        omega
                      have i0 : (0 : Int) ≤ ((q + 1 : Nat) : Int) - 1 := by omega
                      have i1 : (k : Int) - p < ((q + 1 : Nat) : Int) - 1 := by omega
                      have e1 : ((q + 1 : Nat) : Int) - 1 = (q : Int) := by omega
                      rw [e1]
                      rw [e1] at i0 i1
                      have i2 : (q : Int) < ((k + 1 : Nat) : Int) := by omega
                      clear hx
                      go_wp2_with fail
                      go_roundw
                      case rel => exact ⟨q, by omega, by omega, by go_num, by rw [hsum.out]; go_num, _, rfl⟩
                      case measure => (first | (simp [intOf]; done) | (simp [intOf]; omega))
                    · obtain rfl : j = k + 1 - p.toNat := by omega
                      have hS3 := hS2.only0 ((Only.refl [] _).drewN mj)
                      have hO3 := hO2.drewN mj
                      have hrow3 := own_only' hrow2 ((Only.refl [] _).drewN mj) (by simp)
                      obtain ⟨bd1, bd2⟩ := hbd.out
                      rw [hp'.out, hb'.out] at bd1 bd2
                      have s0 := isum_nonneg (l := us'.drop (k + 1 - p.toNat)) fun u hu => (hpos.out u (List.mem_of_mem_drop hu)).1
                      have hdd : (k : Int) < p → us'.drop (k + 1 - p.toNat) = us' := fun h => by rw [show k + 1 - p.toNat = 0 by omega]; rfl
                      have bd3 : (k : Int) < p → isum (us'.drop (k + 1 - p.toNat)) ≤ b := fun h => by rw [hdd h]; exact bd2 h
                      have HB := hide bd3
                      clear bd2 bd3 hdd hbd hS2 hO2 hrow2 HC
                      generalize isum (us'.drop (k + 1 - p.toNat)) = sm at bd1 s0 HB ⊢
                      generalize w2.drewN mj = wy at hS3 hO3 hrow3 ⊢
                      have hexit : ¬ ((0 : Int) ≤ (((k + 1 - p.toNat : Nat) : Int) - 1) ∧ (k : Int) - p < (((k + 1 - p.toNat : Nat) : Int) - 1)) := by omega
                      by_cases hkp : (k : Int) < p
                      · have s1 := HB.out hkp
                        have e0 : (((k + 1 - p.toNat : Nat) : Int) - 1) = -1 := by omega
                        rw [e0]
                        clear hexit e0 HB
                        go_wp2_with fail
                        go_roundw
                        case rel => exact ⟨k + 1, by omega, by go_num, _, _, us', _, _, _, rfl, hO3, hS3, hrow3, hb', hp', hBnd, hl'⟩
                        case measure => (first | (simp [intOf]; done) | (simp [intOf]; omega))
                      · have e0 : (((k + 1 - p.toNat : Nat) : Int) - 1) = k - p := by omega
                        rw [e0]
                        clear hexit e0 HB
                        go_wp2_with fail
                        go_roundw
                        case rel => exact ⟨k + 1, by omega, by go_num, _, _, us', _, _, _, rfl, hO3, hS3, hrow3, hb', hp', hBnd, hl'⟩
                        case measure => (first | (simp [intOf]; done) | (simp [intOf]; omega))
          · go_wp2_with (go_at_call 7; refine (known_any _).mono ?_; rintro e wa ⟨rfl, oa⟩)
            go_ret
            exact ⟨rfl, hO.trans0 oa⟩

theorem own : ownKnob Try.prog.godebug = none := by kernel_rfl
theorem laidOut : laidOutB Try.prog = true := by kernel_rfl

set_option maxRecDepth 100000 in
theorem lifted (os : Os) (started : os.Started) (H : Type) (enc : TypeId × Value → H) :
    ReturnsInHanded {} Try.checked os 4 .any (Rows.serverBoundsSpec.pre6 enc Try.prog Try.f4 Rows.serverBoundsRow.domain false) (Rows.serverBoundsSpec.post enc Try.prog Try.f4 false true false false) := by
  refine returnsInHanded_of_change (C := Try.checked) own started (by kernel_rfl) Try.func4
    (ChangeSpec.witness6 (enc := enc) (C := Try.checked) false ⟨#[], #[.int .i64 0, .int .i64 0, .int .i64 0, .slice none 0 0], []⟩ 8 (by kernel_rfl) (by kernel_rfl) (by kernel_rfl) (by kernel_rfl)) ?_
  intro W base args ds gs before hval0 hW hcnd _
  have hval : ∀ (j : Nat) t v, Try.f4.params[j]? = some t → args[j]? = some v → Value.okWide Try.prog W .any base t v := hval0
  have hW' := hW
  obtain ⟨p, q, hA0, hV, rfl, hfz, hnd⟩ := hW
  have hA : DataW.TrodAll enc Try.prog W 0 (fun _ => true) true Try.f4.params.toList args.toList ds p := hA0
  rw [Try.params4] at hA hval
  obtain ⟨v0, vs0, d0, ds0, p0, q0, hargs, rfl, rfl, h0, r0⟩ := trodAll_cons hA
  obtain ⟨v1, vs1, d1, ds1, p1, q1, rfl, rfl, rfl, h1, r1⟩ := trodAll_cons r0
  obtain ⟨v2, vs2, d2, ds2, p2, q2, rfl, rfl, rfl, h2, r2⟩ := trodAll_cons r1
  obtain ⟨v3, vs3, d3, ds3, p3, q3, rfl, rfl, rfl, h3, r3⟩ := trodAll_cons r2
  obtain ⟨rfl, rfl, rfl⟩ := trodAll_nil r3
  obtain rfl : args = #[v0, v1, v2, v3] := by cases args; simp_all
  obtain ⟨rfl, rfl⟩ := trodVars_none hV
  have k3 := h3
  have lt3 : ∀ x ∈ p3, x.block < W.heap.size := by obtain ⟨m, hm⟩ := k3; exact DataW.trod_lt m _ _ _ hm
  obtain ⟨a0, rfl, rfl, rfl, w0⟩ := open_int Try.underlying2 (hval 0 2 v0 rfl rfl) h0
  obtain ⟨a1, rfl, rfl, rfl, w1⟩ := open_int Try.underlying2 (hval 1 2 v1 rfl rfl) h1
  obtain ⟨a2, rfl, rfl, rfl, w2⟩ := open_int Try.underlying3 (hval 2 3 v2 rfl rfl) h2
  obtain ⟨A, n, c, rfl, hn, hst⟩ : ∃ (A : Option Addr) (n c : Nat), v3 = .slice A n c ∧ n ≤ maxLen ∧ GapsAt W A n := by
    obtain ⟨fuel, hf⟩ := h3
    obtain ⟨A, n, c, rfl⟩ := okWide_slice Try.underlying42 (hval 3 42 v3 rfl rfl)
    rcases open_slice1 Try.underlying42 (by kernel_rfl) hf with ⟨hcs, _⟩ | ⟨a, len, cap, m, nn, V, D, Pl, hcs, _, hl, hm, hmm, _, hfs⟩
    · simp [Value.cells] at hcs
      obtain ⟨rfl, rfl, rfl⟩ := hcs
      exact ⟨none, 0, 0, rfl, Nat.zero_le _, fun k hk => by omega⟩
    · simp [Value.cells] at hcs
      obtain ⟨rfl, rfl, rfl⟩ := hcs
      refine ⟨_, _, _, rfl, by omega, fun k hk => ?_⟩
      have hmk : n ≤ m := by rw [hmm]; split <;> omega
      obtain ⟨hc0, ht0⟩ := hfs k (by omega)
      obtain ⟨x0, e0, _⟩ := DataW.trod_bool Try.underlying4 ht0
      simp at e0
      rw [e0] at hc0
      exact ⟨_, x0, rfl, hc0⟩
  clear hA0 hval0
  refine (walk a0 a1 a2 A n c W hst hn).mono fun e W' ⟨he, hg⟩ => ?_
  subst he
  have bel := hg.below
  exact ⟨_, rfl, _, _, _, [], _, [], hW', trodAll_mk1 (shut_bool Try.underlying4 _), (trodAll_cons_mk (shut_int Try.underlying2 w0) (trodAll_cons_mk (shut_int Try.underlying2 w1) (trodAll_cons_mk (shut_int Try.underlying3 w2) (trodAll_cons_mk (Below.trod laidOut (by kernel_rfl) (of_decide_eq_true (by kernel_rfl)) k3 bel lt3) trodAll_mk0)))), rfl, bel.frame _, fun h => by cases h⟩

theorem over : Rows.serverBoundsRow.holds Try.pinned (OpenSpec.ofChange Rows.serverBoundsSpec) :=
  OpenClaim.holds_of_wide 4 Try.f4 rfl rfl rfl rfl rfl rfl rfl ⟨rfl, rfl, rfl, rfl, rfl⟩ rfl rfl rfl rfl rfl (by kernel_rfl) Try.func4 (by kernel_rfl)
    (of_decide_eq_true (by kernel_rfl)) (by unfold Func.isWrapper; first | (rw [if_pos (by decide +kernel)]; kernel_rfl) | (rw [if_neg (by decide +kernel)]; exact ⟨rfl, rfl⟩))
    (fun os started H enc _ => lifted os started H enc)

theorem proved : Rows.ServerBoundsSaid := over
#print axioms proved
end Go.Proofs.Ytidllhnldhnoeaa.serverBounds

