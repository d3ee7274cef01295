/- Script: Stretches' iterator: its walk. Condition: the events lie. -/
import Derived.Test.YteblhklclcjonaaGreatDoorSm1
namespace Go.Proofs.YteblhklclcjonaaGreatDoor
open Go.RowKit Go.Shelf
set_option linter.unusedVariables false
set_option linter.all false
set_option maxRecDepth 100000
attribute [local go_sem] Oper.semAt_some

set_option maxHeartbeats 8000000 in
theorem str1_in (n l bx N len c : Nat) (A : Option Addr) (f : Nat → Ev) (hn : 1 ≤ n) (hlen : len ≤ 1000000) (J Jx : List Str → World → Prop) (W : World) (hJ : AbidesFrom W.heap.size J)
    (hY : ∀ pre x W1, J pre W1 → pre.length < (strF (evL len f)).length → YieldAt Fence.wide (n - 1) Tryz.prog l #[.agg #[.int .i64 x.ev.kind, .int .i64 x.ev.num, .int .i64 x.n]] W1 fun e W' =>
      (e = .returned (.bool true) ∧ J (pre ++ [x]) W' ∧ Kpn N W1 W') ∨ (e = .returned (.bool false) ∧ Jx (pre ++ [x]) W'))
    (hNW : N ≤ W.heap.size) (hbx : bx < N) (hA : EvLt A N) (hE : EvAt W A len f)
    (hb : Blk W bx 27 #[.slice A len c]) (h0 : J [] W) :
    CallsIn Fence.wide n Tryz.prog 36 #[.func (.yield l) #[] #[], .pointer (some ⟨bx, 0, none⟩)] W fun e W' => (∃ v, e = .returned v) ∧
      ((∃ ys, ys = strF (evL len f) ∧ J ys W') ∨ (∃ pre, pre <+: strF (evL len f) ∧ Jx pre W')) := by
  have HE := hide hE
  have HA := hide hA
  have HB := hide hb
  clear hE hA hb
  refine callsIn_of_wp Tryz.func36 rfl trivial ?_ rfl
  simp only [Tryz.ntmps36, List.size_toArray, List.length_cons, List.length_nil, Nat.reduceAdd, Nat.reduceSub, Array.replicate_succ, Array.replicate_zero, List.push_toArray, List.append_toArray, List.nil_append, List.cons_append]
  gi_wp2
  gi_loopw [3] (fun vi wr => ∃ (i : Nat) (pre : List Str), i ≤ len ∧ vi = .int .i64 i ∧ strF (evL len f) = pre ++ strF ((evL len f).drop i) ∧ J pre wr ∧ Hid (Kpn N W wr)) (fun vi _ => len - (intOf vi).toNat)
  case atStart => exact ⟨0, [], Nat.zero_le _, rfl, rfl, h0, hide (Kpn.refl _ _)⟩
  case round =>
    obtain ⟨i, pre, hi, rfl, hpre, hj, hk⟩ := hrel
    have hsz := hk.out.1
    have cx : wr.cell? ⟨bx, 0, none⟩ = some (.slice A len c) := ((hk.out.blk hbx HB.out).cell 0).trans rfl
    by_cases hlt : i < len
    · obtain ⟨a, eA, e0, e1⟩ := (HE.out.kpn HA.out hk.out) i hlt
      subst eA
      have j0 : (0 : Int) ≤ (i : Int) := by omega
      have j1 : (i : Int) < (len : Int) := by omega
      have MY := fun V => may_ev (f i).kind (f i).num V
      obtain ⟨ki, hki⟩ : ∃ x, (f i).kind = x := ⟨_, rfl⟩
      obtain ⟨mi, hmi⟩ : ∃ x, (f i).num = x := ⟨_, rfl⟩
      have hfi : f i = ⟨ki, mi⟩ := by rw [← hki, ← hmi]
      rw [hki, hmi] at MY
      rw [hki] at e0
      rw [hmi] at e1
      cases hm : mayE ⟨ki, mi⟩ with
      | false =>
        rw [hm] at MY
        have MY := hide MY
        have hend : strF ((evL len f).drop i) = [] := strF_stop (.inr (by rw [hfi]; exact hm))
        rw [hend, List.append_nil] at hpre
        have HP := hide hpre
        clear hpre hend hfi hki hmi hm
        gi_wp2_with (first
          | (refine ⟨trivial, ?_⟩; gi_at_call 13; refine (callsIn_wide.2 (MY.out _)).mono ?_; rintro e w2 ⟨rfl, o2⟩))
        go_end0
        exact ⟨⟨_, rfl⟩, .inl ⟨pre, HP.out.symm, ab_only0 hJ hj o2⟩⟩
      | true =>
        rw [hm] at MY
        have MY := hide MY
        have HP := hide hpre
        have HST := hide (fun (m : Nat) => @strF_step len f i m)
        have HFI := hide hfi
        have HM := hide hm
        clear hpre hfi hki hmi hm
        gi_wp2_with (first
          | (refine ⟨trivial, ?_⟩; gi_at_call 13; refine (callsIn_wide.2 (MY.out _)).mono ?_; rintro e w2 ⟨rfl, o2⟩; have HJ2 := ab_only0 hJ hj o2; have HK2 := hide (hk.out.trans (Kpn.only0 o2 (by omega))); clear o2))
        have HS2 := hide (show N ≤ w2.heap.size by have := HK2.out.1; omega)
        clear hj hk e0 e1 cx hsz
        gi_wp2
        gi_loopw [4] (fun vm wy => ∃ m : Nat, 1 ≤ m ∧ i + m ≤ len ∧ vm = .int .i64 m ∧ Hid (∀ j, j < m → f (i + j) = f i) ∧ Hid (ki = 3 → m = 1) ∧ J pre wy ∧ Hid (Kpn N W wy)) (fun vm _ => len - (intOf vm).toNat)
        case atStart => exact ⟨1, Nat.le_refl _, by omega, rfl, hide (fun j hj => by rw [show j = 0 by omega]; rfl), hide (fun _ => rfl), HJ2, HK2⟩
        case round =>
          clear HJ2 HK2 HS2
          obtain ⟨m, m1, m2, rfl, hall, h3, hjy, hky⟩ := hrel
          have hszy := hky.out.1
          have cx : wr.cell? ⟨bx, 0, none⟩ = some (.slice (some a) len c) := ((hky.out.blk hbx HB.out).cell 0).trans rfl
          obtain ⟨a', eA, e0, e1⟩ := (HE.out.kpn HA.out hky.out) i hlt
          injection eA with eA
          subst eA
          rw [HFI.out] at e0 e1
          simp only at e0 e1
          obtain ⟨q, hq⟩ : ∃ q, i + m = q := ⟨_, rfl⟩
          have hqi : (i : Int) + (m : Int) = (q : Int) := by omega
          have HALL := hide hall.out
          have H3 := hide h3.out
          by_cases k3 : ki = 3
          · subst k3
            have hm1 : m = 1 := H3.out rfl
            have HM1 := hide hm1
            clear hall h3 hm1
            gi_wp2
            gi_quiet (fail)
            have hj9 := ab_only0 hJ hjy ((Only.refl [] wr).drewN nq)
            have hk9 := hide (hky.out.trans (Kpn.only0 ((Only.refl [] wr).drewN nq) (by omega)))
            generalize wr.drewN nq = w9 at hj9 hk9 ⊢
            have HSTEP := HST.out m hlt (by rw [HFI.out]; exact HM.out) m1 (by omega) HALL.out (fun _ => HM1.out) (fun h => absurd (by rw [HFI.out] : (f i).kind = 3) h)
            have HP2 := HP.out
            rw [HSTEP, hq, HFI.out] at HP2
            have hlen9 : pre.length < (strF (evL len f)).length := by rw [HP2]; simp
            have HP3 := hide HP2
            clear HSTEP HP2 e0 e1 cx hjy hky hszy
            have cx : w9.cell? ⟨bx, 0, none⟩ = some (.slice (some a) len c) := ((hk9.out.blk hbx HB.out).cell 0).trans rfl
            obtain ⟨a5, eA, e0, e1⟩ := (HE.out.kpn HA.out hk9.out) i hlt
            injection eA with eA
            subst eA
            rw [HFI.out] at e0 e1
            simp only at e0 e1
            obtain ⟨fn, tmps, assign, body, hy, hRo⟩ := hY pre ⟨⟨3, mi⟩, m⟩ w9 hj9 hlen9
            dsimp only at hy
            gi_wp2
            refine hRo.mono ?_
            rintro e W3 (⟨rfl, hJ3, hk3⟩ | ⟨rfl, hJx3⟩)
            · have hkk := hide (hk9.out.trans hk3)
              gi_wp2
              go_roundw
              case rel => exact ⟨q, _, by omega, by go_num, by rw [HP3.out]; simp, hJ3, hkk⟩
              case measure => simp [intOf]; omega
            · gi_wp2
              refine bodyPost_ret (results_none rfl _ _ _) rfl ?_
              exact ⟨⟨_, rfl⟩, .inr ⟨pre ++ [⟨⟨3, mi⟩, m⟩], by rw [HP3.out]; exact ⟨strF ((evL len f).drop q), by simp⟩, hJx3⟩⟩
          · have b3 : (ki != 3) = true := by simpa using k3
            by_cases hlm : q < len
            · obtain ⟨a'', eA2, e2, e3⟩ := (HE.out.kpn HA.out hky.out) q hlm
              injection eA2 with eA2
              subst eA2
              obtain ⟨kj, hkj⟩ : ∃ x, (f q).kind = x := ⟨_, rfl⟩
              obtain ⟨mj, hmj⟩ : ∃ x, (f q).num = x := ⟨_, rfl⟩
              rw [hkj] at e2
              rw [hmj] at e3
              have hfj : f q = ⟨kj, mj⟩ := by rw [← hkj, ← hmj]
              have d1 : decide ((q : Int) < (len : Int)) = true := decide_eq_true (by omega)
              have d1' : (q : Int) < (len : Int) := by omega
              have d0 : (0 : Int) ≤ (q : Int) := by omega
              have HFJ := hide hfj
              clear hkj hmj hfj hall h3
              have EQ := fun V => eqEv kj mj ki mi V
              gi_wp2
              gi_quiet (fail)
              by_cases hje : kj = ki ∧ mj = mi
              · obtain ⟨rfl, rfl⟩ := hje
                have t1 : (kj == kj && mj == mj) = true := by simp
                rw [t1]
                have hj9 := ab_only0 hJ hjy ((Only.refl [] wr).drewN nq)
                have hk9 := hide (hky.out.trans (Kpn.only0 ((Only.refl [] wr).drewN nq) (by omega)))
                have HA2 := hide (show ∀ j, j < m + 1 → f (i + j) = f i by
                  intro j hj
                  by_cases hjm : j < m
                  · exact HALL.out j hjm
                  · rw [show j = m by omega, hq, HFJ.out, HFI.out])
                generalize wr.drewN nq = w9 at hj9 hk9 ⊢
                clear e0 e1 e2 e3 cx hjy hky hszy EQ
                gi_wp2
                go_roundw
                case rel => exact ⟨m + 1, by omega, by omega, by go_num, HA2, hide (fun h => absurd h k3), hj9, hk9⟩
                case measure => simp [intOf]; omega
              · have t1 : (kj == ki && mj == mi) = false := by simpa using hje
                rw [t1]
                have HNE := hide (show f q ≠ f i by rw [HFJ.out, HFI.out]; intro h; injection h with h1 h2; exact hje ⟨h1, h2⟩)
                clear e2 e3 EQ t1
                have hj9 := ab_only0 hJ hjy ((Only.refl [] wr).drewN nq)
                have hk9 := hide (hky.out.trans (Kpn.only0 ((Only.refl [] wr).drewN nq) (by omega)))
                generalize wr.drewN nq = w9 at hj9 hk9 ⊢
                have HSTEP := HST.out m hlt (by rw [HFI.out]; exact HM.out) m1 (by omega) HALL.out (fun h => absurd (show ki = 3 by rw [HFI.out] at h; exact h) k3) (fun _ => .inr (by rw [hq]; exact HNE.out))
                have HP2 := HP.out
                rw [HSTEP, hq, HFI.out] at HP2
                have hlen9 : pre.length < (strF (evL len f)).length := by rw [HP2]; simp
                have HP3 := hide HP2
                clear HSTEP HP2 e0 e1 cx hjy hky hszy
                have cx : w9.cell? ⟨bx, 0, none⟩ = some (.slice (some a) len c) := ((hk9.out.blk hbx HB.out).cell 0).trans rfl
                obtain ⟨a5, eA, e0, e1⟩ := (HE.out.kpn HA.out hk9.out) i hlt
                injection eA with eA
                subst eA
                rw [HFI.out] at e0 e1
                simp only at e0 e1
                obtain ⟨fn, tmps, assign, body, hy, hRo⟩ := hY pre ⟨⟨ki, mi⟩, m⟩ w9 hj9 hlen9
                dsimp only at hy
                gi_wp2
                refine hRo.mono ?_
                rintro e W3 (⟨rfl, hJ3, hk3⟩ | ⟨rfl, hJx3⟩)
                · have hkk := hide (hk9.out.trans hk3)
                  gi_wp2
                  go_roundw
                  case rel => exact ⟨q, _, by omega, by go_num, by rw [HP3.out]; simp, hJ3, hkk⟩
                  case measure => simp [intOf]; omega
                · gi_wp2
                  refine bodyPost_ret (results_none rfl _ _ _) rfl ?_
                  exact ⟨⟨_, rfl⟩, .inr ⟨pre ++ [⟨⟨ki, mi⟩, m⟩], by rw [HP3.out]; exact ⟨strF ((evL len f).drop q), by simp⟩, hJx3⟩⟩
            · have d1 : decide ((q : Int) < (len : Int)) = false := decide_eq_false (by omega)
              have d1' : ¬ (q : Int) < (len : Int) := by omega
              clear hall h3
              gi_wp2
              gi_quiet (fail)
              have hj9 := ab_only0 hJ hjy ((Only.refl [] wr).drewN nq)
              have hk9 := hide (hky.out.trans (Kpn.only0 ((Only.refl [] wr).drewN nq) (by omega)))
              generalize wr.drewN nq = w9 at hj9 hk9 ⊢
              have HSTEP := HST.out m hlt (by rw [HFI.out]; exact HM.out) m1 (by omega) HALL.out (fun h => absurd (show ki = 3 by rw [HFI.out] at h; exact h) k3) (fun _ => .inl (by omega))
              have HP2 := HP.out
              rw [HSTEP, hq, HFI.out] at HP2
              have hlen9 : pre.length < (strF (evL len f)).length := by rw [HP2]; simp
              have HP3 := hide HP2
              clear HSTEP HP2 e0 e1 cx hjy hky hszy
              have cx : w9.cell? ⟨bx, 0, none⟩ = some (.slice (some a) len c) := ((hk9.out.blk hbx HB.out).cell 0).trans rfl
              obtain ⟨a5, eA, e0, e1⟩ := (HE.out.kpn HA.out hk9.out) i hlt
              injection eA with eA
              subst eA
              rw [HFI.out] at e0 e1
              simp only at e0 e1
              obtain ⟨fn, tmps, assign, body, hy, hRo⟩ := hY pre ⟨⟨ki, mi⟩, m⟩ w9 hj9 hlen9
              dsimp only at hy
              gi_wp2
              refine hRo.mono ?_
              rintro e W3 (⟨rfl, hJ3, hk3⟩ | ⟨rfl, hJx3⟩)
              · have hkk := hide (hk9.out.trans hk3)
                gi_wp2
                go_roundw
                case rel => exact ⟨q, _, by omega, by go_num, by rw [HP3.out]; simp, hJ3, hkk⟩
                case measure => simp [intOf]; omega
              · gi_wp2
                refine bodyPost_ret (results_none rfl _ _ _) rfl ?_
                exact ⟨⟨_, rfl⟩, .inr ⟨pre ++ [⟨⟨ki, mi⟩, m⟩], by rw [HP3.out]; exact ⟨strF ((evL len f).drop q), by simp⟩, hJx3⟩⟩
    · obtain rfl : i = len := by omega
      have hend : strF ((evL i f).drop i) = [] := strF_stop (.inl (Nat.le_refl _))
      rw [hend, List.append_nil] at hpre
      have HP := hide hpre
      clear hpre hend
      gi_wp2_with (refine ⟨trivial, ?_⟩)
      go_end0
      exact ⟨⟨_, rfl⟩, .inl ⟨pre, HP.out.symm, hj⟩⟩
end Go.Proofs.YteblhklclcjonaaGreatDoor
