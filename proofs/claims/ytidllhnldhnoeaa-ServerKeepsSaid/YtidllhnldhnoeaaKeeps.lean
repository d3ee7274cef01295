/- ServerKeeps: the law returns true whatever the input. No condition. -/
import Derived.Test.YtidllhnldhnoeaaSv6
import Derived.Test.YtidllhnldhnoeaaRows
import Derived.Deep.Slices
import Derived.Deep.Fields
import Derived.ChangeSame
import Derived.ProofKit
import Derived.OpenShut
import Derived.ChangeOld
namespace Go.Proofs.Ytidllhnldhnoeaa.serverKeeps
open Go.ChangeShapes Go.WideShapes Go.ChangeAt Go.RowKit Go.Deep
set_option linter.unusedVariables false
set_option linter.all false

/-- What the law's slice of steps holds: two ints a step. -/
def StepsAt (w : World) (A : Option Addr) (n : Nat) : Prop := ∀ k, k < n → ∃ (a : Addr) (kd t : Int), A = some a ∧ w.cell? (a.add (k * 2)) = some (.int .i64 kd) ∧ w.cell? (a.add (k * 2 + 1)) = some (.int .i64 t)
theorem StepsAt.only0 {w w' : World} {A : Option Addr} {n : Nat} (h : StepsAt w A n) (ho : Only [] w w') : StepsAt w' A n := fun k hk => by
  obtain ⟨a, kd, t, rfl, h0, h1⟩ := h k hk
  exact ⟨a, kd, t, rfl, ho.keep0 h0, ho.keep0 h1⟩
theorem psum_take_succ (l : List (Int × Int)) (j : Nat) (p : Int × Int) (h : l[j]? = some p) : psum (l.take (j + 1)) = psum (l.take j) + p.2 := by
  rw [List.take_add_one, h, psum_append]
  simp [psum]
theorem budget_start (s : SS) (t : Int) : (sStart s t).1.budget = s.budget := by
  unfold sStart; repeat' split
  all_goals rfl
theorem budget_stop (s : SS) (t : Int) : (sStopAt s t).1.budget = s.budget := by
  unfold sStopAt; repeat' split
  all_goals rfl
theorem budget_use (s : SS) : (sUse s).1.budget = s.budget := by
  unfold sUse; repeat' split
  all_goals rfl
theorem quiet_high {B g c : Nat} {A : Option Addr} {s : SS} {w : World} {n : Nat} (v : Bool) (hv : high s = v) (h : Sv w B g A c s) :
    Calls Try.prog 15 #[.pointer (some ⟨g, 0, none⟩)] (w.drewN n) fun e w'' => e = .returned (.bool v) ∧ ∃ m, w'' = w.drewN m := by
  subst hv
  exact (high_any (h.only0 ((Only.refl _ _).drewN n))).mono fun _ _ ⟨he, m, hm⟩ => ⟨he, n + m, by rw [← hm, World.drewN_drewN]⟩
theorem high_left {s : SS} (h : s.left = 0) : high s = false := by simp [high, h]

section
variable {H : Type} {enc : TypeId × Value → H} {P : Program} {w : World} {base : Nat} {spare : Nat → Bool} {held : Bool}
theorem open_slice_fields {t e : TypeId} {fs : Array Field} {fuel : Nat} {cs : List Value} {x : DataW H × List MemPlace} (ht : P.underlying t = some (.slice e)) (he : P.underlying e = some (.struct fs))
    (hone : oneCellFields P fs = true) (hC : P.cellsOf e = fs.size) (h : DataW.trod enc P w base spare held fuel t cs = some x) :
    (cs = [.slice none 0 0] ∧ x = (.nil, [])) ∨
    ∃ (a : Addr) (len cap m : Nat) (D : Nat → DataW H) (Pl : Nat → List MemPlace), cs = [.slice (some a) len cap] ∧ base ≤ a.block ∧ len ≤ cap ∧ cap ≤ maxLen ∧ m = (if spare a.block then cap else len) ∧
      x = (.slice ((List.range len).map D) ((List.range (m - len)).map fun j => D (len + j)), MemPlace.row a (m * fs.size) ++ (List.range m).flatMap Pl) ∧
      ∀ i, i < m → ∃ (ys : List (DataW H × List MemPlace)) (n : Nat), D i = .agg (ys.map (·.1)) ∧ Pl i = ys.flatMap (·.2) ∧ ys.length = fs.size ∧
        ∀ (j : Nat) (f : Field), fs[j]? = some f → ∃ (v : Value) (y : DataW H × List MemPlace), w.cell? (a.add (i * fs.size + j)) = some v ∧ ys[j]? = some y ∧ DataW.trod enc P w base spare held n f.type [v] = some y := by
  rcases open_slice ht h with h0 | ⟨a, len, cap, m, n, D, Pl, hcs, hb, hl, hm, hmm, hx, hi⟩
  · exact .inl h0
  · refine .inr ⟨a, len, cap, m, D, Pl, hcs, hb, hl, hm, hmm, by rw [hC] at hx; exact hx, fun i him => ?_⟩
    obtain ⟨cs', hc, ht'⟩ := hi i him
    rw [hC] at hc
    obtain ⟨ys, n', hn', hy, hlen, hyl, hf⟩ := DataW.trod_struct he ht'
    obtain ⟨_, hcl, hat⟩ := World.cells?_some hc
    simp only [Prod.mk.injEq] at hy
    refine ⟨ys, n', hy.1, hy.2, hyl, fun j f hj => ?_⟩
    obtain ⟨ho, hk⟩ := hone_of hone j f hj
    have hjl : j < fs.size := (Array.getElem?_eq_some_iff.1 hj).1
    have hcell := hat j hjl
    have hv : cs'[j]? = some (cs'[j]'(by omega)) := List.getElem?_eq_getElem (by omega)
    have h1 := hf j f hj
    rw [ho, hk] at h1
    have hone' : (cs'.drop j).take 1 = [cs'[j]'(by omega)] := by
      rw [List.drop_eq_getElem_cons (by omega)]
      rfl
    rw [hone'] at h1
    have hys : ys[j]? = some (ys[j]'(by omega)) := List.getElem?_eq_getElem (by omega)
    refine ⟨_, _, ?_, hys, h1.trans hys⟩
    rw [← Go.Deep.add_add, hcell, hv]
end

set_option maxRecDepth 100000 in
set_option maxHeartbeats 4000000 in
theorem walk (b p m : Int) (A0 : Option Addr) (n c : Nat) (w : World) (hA : StepsAt w A0 n) (hn : n ≤ maxLen) :
    Calls Try.prog 3 #[.int .i64 b, .int .i64 p, .int .i64 m, .slice A0 n c] w fun e w' => e = .returned (.bool true) ∧ Only [] w w' := by
  have HA := hide hA
  clear hA
  by_cases hbad : b < 1 ∨ p < b ∨ 1099511627776 < p ∨ m < 1 ∨ 16 < m
  · have H := hide hbad
    clear hbad
    go_enter Try.func3, Try.ntmps3
    go_wp2_with (first
      | (go_at_call 6; refine (new_bad b p m _ H.out).mono ?_; rintro e w' ⟨rfl, rfl⟩)
      | (go_at_call 7; refine (known_any _).mono ?_; rintro e wa ⟨rfl, oa⟩))
    go_ret
    exact ⟨rfl, oa⟩
  · have h1 : 1 ≤ b := by omega
    have h2 : b ≤ p := by omega
    have h3 : p ≤ 1099511627776 := by omega
    have h4 : 1 ≤ m := by omega
    have h5 : m ≤ 16 := by omega
    clear hbad
    by_cases h200 : 200 < n
    · have d200 : (200 : Int) < (n : Int) := by omega
      go_enter Try.func3, Try.ntmps3
      go_wp2_with (first
        | (go_at_call 6; refine (new_good b p m _ h1 h2 h3 h4 h5).mono ?_; rintro e wn ⟨rfl, on, _⟩)
        | (go_at_call 7; refine (known_any _).mono ?_; rintro e wa ⟨rfl, oa⟩))
      go_ret
      exact ⟨rfl, on.trans0 oa⟩
    · have d200 : decide ((200 : Int) < (n : Int)) = false := by simp; omega
      go_enter Try.func3, Try.ntmps3
      go_wp2_with fail
      refine (new_good b p m _ h1 h2 h3 h4 h5).mono ?_
      rintro e wn ⟨rfl, on, hn0⟩
      go_wp2_with fail
      have d200' : n ≤ 200 := by omega
      have hwn := on.size
      clear d200 h200
      go_loopw [11] (fun i wr => ∃ k : Nat, k ≤ n ∧ i = .int .i64 k ∧ ∃ (A : Option Addr) (c : Nat) (s : SS), Only [] w wr ∧ Sv wr w.heap.size w.heap.size A c s ∧ s.budget = b) (fun i _ => n - (intOf i).toNat)
      case atStart => exact ⟨0, Nat.zero_le _, rfl, none, 0, _, on, hn0, rfl⟩
      case round =>
        obtain ⟨k, hk, rfl, A, c, s, hO, hS, hbs⟩ := hrel
        have HB := hide hbs
        clear hbs
        by_cases hlt : k < n
        · obtain ⟨a, kd, t, rfl, k0, k1'⟩ := HA.out.only0 hO k hlt
          have k1 : wr.cell? ⟨(a.add (k * 2)).block, (a.add (k * 2)).off + 1, none⟩ = some (.int .i64 t) := by rw [← Go.Deep.add_add] at k1'; exact k1'
          have i0 : (0 : Int) ≤ (k : Int) := by omega
          have i1 : (k : Int) < (n : Int) := by omega
          clear k1'
          by_cases g1 : kd = 1
          · subst g1
            go_wp2_with fail
            refine (start_any t hS).mono ?_
            rintro e w2 ⟨rfl, o2, hS'⟩
            have hO' := hO.trans o2 (by simp)
            have hb' : (sStart s t).1.budget = b := (budget_start s t).trans HB.out
            generalize (sStart s t).1 = s' at hS' hb'
            have hH := hide hS'.good
            have hbud := hide hb'
            clear hb'
            go_wp2_with fail
            refine (active_any hS').mono ?_
            rintro e wq ⟨rfl, ka, rfl⟩
            have hO2 := hO'.drewN ka
            have hS2 := hS'.only0 ((Only.refl _ _).drewN ka)
            have hl0 := hH.out.l0
            have hu0 := hH.out.u0
            have hps := psum_nonneg hH.out.amt
            have htot := hide hH.out.total
            have hsum : s'.left + s'.used + psum s'.ps ≤ 1099511627776 := by have := htot.out; have := hH.out.bp; have := hH.out.pm; omega
            go_wp2_with (go_at_call 13; refine (left_any hS2).mono ?_; rintro e w' ⟨rfl, rfl⟩)
            refine (pieces_any hS2).mono ?_
            rintro e wp ⟨⟨A2, c2, rfl, hown⟩, op⟩
            have hO3 := hO2.trans0 op
            have hS3 := hS2.only0 op
            have hsrc := hide (PSrc.own hown)
            have hlen16 : s'.ps.length ≤ 16 := by have := hH.out.len; have := hH.out.m16; omega
            clear hown
            go_wp2_with fail
            go_loopw [13, 16] (fun v i wr => ∃ j : Nat, j ≤ s'.ps.length ∧ i = .int .i64 j ∧ v = .int .i64 (s'.used + s'.left + psum (s'.ps.take j)) ∧ ∃ m, wp.drewN m = wr) (fun v i _ => s'.ps.length - (intOf i).toNat)
            case atStart => exact ⟨0, Nat.zero_le _, rfl, by simp [psum], 0, rfl⟩
            case round =>
              obtain ⟨j, hj, rfl, rfl, mj, rfl⟩ := hrel
              by_cases hjl : j < s'.ps.length
              · obtain ⟨q, hq⟩ : ∃ q, s'.ps[j]? = some q := ⟨_, List.getElem?_eq_getElem hjl⟩
                obtain ⟨ga, rfl, hc⟩ := hsrc.out (by omega)
                obtain ⟨e0, e1⟩ := PV_get s'.ps j q hq
                have q1 : wp.cell? ⟨ga, j * 2 + 1, none⟩ = some (.int .i64 q.2) := (hc (j * 2 + 1) (by omega)).trans e1
                have hqa := hH.out.amt q (List.mem_of_getElem? hq)
                have hsucc := hide (psum_take_succ s'.ps j q hq)
                have hle := psum_take_le (j + 1) hH.out.amt
                have hle0 := psum_take_le j hH.out.amt
                have hge := psum_nonneg (fun p hp => hH.out.amt p (List.mem_of_mem_take hp) : ∀ p ∈ s'.ps.take j, 1 ≤ p.2)
                have hrs : psum (s'.ps.take j) + q.2 ≤ psum s'.ps := by have := hsucc.out; omega
                have i0 : (0 : Int) ≤ (j : Int) := by omega
                have i1 : (j : Int) < (s'.ps.length : Int) := by omega
                have dq : decide (q.2 < 1) = false := by simp; omega
                clear hc e0 e1 hq hle
                go_wp2_with fail
                go_roundw
                case rel => exact ⟨j + 1, by omega, by go_num, by rw [hsucc.out]; go_num, _, rfl⟩
                case measure => simp [intOf]; omega
              · have hje : j = s'.ps.length := by omega
                subst hje
                rw [List.take_length]
                have hS4 := hS3.only0 ((Only.refl _ _).drewN mj)
                have hO4 := hO3.drewN mj
                have he : s'.used + s'.left + psum s'.ps = b := by have := htot.out; have := hbud.out; omega
                rw [he]
                clear he hsum hsrc hS3 hO3
                generalize wp.drewN mj = wy at hS4 hO4 ⊢
                have hng : decide (s'.left < 0) = false := by simp; omega
                cases hh : high s' with
                | false =>
                  have HH := hide hh
                  clear hh
                  have hhi := high_any hS4
                  rw [HH.out] at hhi
                  have HI := hide hhi
                  clear hhi
                  go_wp2_with (first
                    | (go_at_call 13; refine (left_any hS4).mono ?_; rintro e w' ⟨rfl, rfl⟩)
                    | (go_at_call 15; refine HI.out.mono ?_; rintro e w' ⟨rfl, kh, rfl⟩; have hS5 := hS4.only0 ((Only.refl _ _).drewN kh))
                    | (go_at_call 13; refine (left_any hS5).mono ?_; rintro e w' ⟨rfl, rfl⟩))
                  go_roundw
                  case rel => exact ⟨k + 1, by omega, by go_num, _, _, _, hO4.drewN kh, hS5, hbud.out⟩
                  case measure => simp [intOf]; omega
                | true =>
                  have hnz : (s'.left == 0) = false := by
                    have : ¬ s'.left = 0 := fun h0 => by rw [high_left h0] at hh; cases hh
                    simpa using this
                  have HH := hide hh
                  clear hh
                  have hhi := high_any hS4
                  rw [HH.out] at hhi
                  have HI := hide hhi
                  clear hhi
                  go_wp2_with (first
                    | (go_at_call 13; refine (left_any hS4).mono ?_; rintro e w' ⟨rfl, rfl⟩)
                    | (go_at_call 15; refine HI.out.mono ?_; rintro e w' ⟨rfl, kh, rfl⟩; have hS5 := hS4.only0 ((Only.refl _ _).drewN kh))
                    | (go_at_call 13; refine (left_any hS5).mono ?_; rintro e w' ⟨rfl, rfl⟩))
                  go_roundw
                  case rel => exact ⟨k + 1, by omega, by go_num, _, _, _, hO4.drewN kh, hS5, hbud.out⟩
                  case measure => simp [intOf]; omega
          by_cases g2 : kd = 2
          · subst g2
            clear g1
            go_wp2_with fail
            refine (use_any hS hO.size).mono ?_
            rintro e w2 ⟨rfl, o2, ⟨A', c', hS', _⟩⟩
            have hO' := Sv.step hO hS (Nat.le_refl _) o2
            have hb' : (sUse s).1.budget = b := (budget_use s).trans HB.out
            generalize (sUse s).1 = s' at hS' hb'
            have hH := hide hS'.good
            have hbud := hide hb'
            clear hb'
            go_wp2_with fail
            refine (active_any hS').mono ?_
            rintro e wq ⟨rfl, ka, rfl⟩
            have hO2 := hO'.drewN ka
            have hS2 := hS'.only0 ((Only.refl _ _).drewN ka)
            have hl0 := hH.out.l0
            have hu0 := hH.out.u0
            have hps := psum_nonneg hH.out.amt
            have htot := hide hH.out.total
            have hsum : s'.left + s'.used + psum s'.ps ≤ 1099511627776 := by have := htot.out; have := hH.out.bp; have := hH.out.pm; omega
            go_wp2_with (go_at_call 13; refine (left_any hS2).mono ?_; rintro e w' ⟨rfl, rfl⟩)
            refine (pieces_any hS2).mono ?_
            rintro e wp ⟨⟨A2, c2, rfl, hown⟩, op⟩
            have hO3 := hO2.trans0 op
            have hS3 := hS2.only0 op
            have hsrc := hide (PSrc.own hown)
            have hlen16 : s'.ps.length ≤ 16 := by have := hH.out.len; have := hH.out.m16; omega
            clear hown
            go_wp2_with fail
            go_loopw [13, 16] (fun v i wr => ∃ j : Nat, j ≤ s'.ps.length ∧ i = .int .i64 j ∧ v = .int .i64 (s'.used + s'.left + psum (s'.ps.take j)) ∧ ∃ m, wp.drewN m = wr) (fun v i _ => s'.ps.length - (intOf i).toNat)
            case atStart => exact ⟨0, Nat.zero_le _, rfl, by simp [psum], 0, rfl⟩
            case round =>
              obtain ⟨j, hj, rfl, rfl, mj, rfl⟩ := hrel
              by_cases hjl : j < s'.ps.length
              · obtain ⟨q, hq⟩ : ∃ q, s'.ps[j]? = some q := ⟨_, List.getElem?_eq_getElem hjl⟩
                obtain ⟨ga, rfl, hc⟩ := hsrc.out (by omega)
                obtain ⟨e0, e1⟩ := PV_get s'.ps j q hq
                have q1 : wp.cell? ⟨ga, j * 2 + 1, none⟩ = some (.int .i64 q.2) := (hc (j * 2 + 1) (by omega)).trans e1
                have hqa := hH.out.amt q (List.mem_of_getElem? hq)
                have hsucc := hide (psum_take_succ s'.ps j q hq)
                have hle := psum_take_le (j + 1) hH.out.amt
                have hle0 := psum_take_le j hH.out.amt
                have hge := psum_nonneg (fun p hp => hH.out.amt p (List.mem_of_mem_take hp) : ∀ p ∈ s'.ps.take j, 1 ≤ p.2)
                have hrs : psum (s'.ps.take j) + q.2 ≤ psum s'.ps := by have := hsucc.out; omega
                have i0 : (0 : Int) ≤ (j : Int) := by omega
                have i1 : (j : Int) < (s'.ps.length : Int) := by omega
                have dq : decide (q.2 < 1) = false := by simp; omega
                clear hc e0 e1 hq hle
                go_wp2_with fail
                go_roundw
                case rel => exact ⟨j + 1, by omega, by go_num, by rw [hsucc.out]; go_num, _, rfl⟩
                case measure => simp [intOf]; omega
              · have hje : j = s'.ps.length := by omega
                subst hje
                rw [List.take_length]
                have hS4 := hS3.only0 ((Only.refl _ _).drewN mj)
                have hO4 := hO3.drewN mj
                have he : s'.used + s'.left + psum s'.ps = b := by have := htot.out; have := hbud.out; omega
                rw [he]
                clear he hsum hsrc hS3 hO3
                generalize wp.drewN mj = wy at hS4 hO4 ⊢
                have hng : decide (s'.left < 0) = false := by simp; omega
                cases hh : high s' with
                | false =>
                  have HH := hide hh
                  clear hh
                  have hhi := high_any hS4
                  rw [HH.out] at hhi
                  have HI := hide hhi
                  clear hhi
                  go_wp2_with (first
                    | (go_at_call 13; refine (left_any hS4).mono ?_; rintro e w' ⟨rfl, rfl⟩)
                    | (go_at_call 15; refine HI.out.mono ?_; rintro e w' ⟨rfl, kh, rfl⟩; have hS5 := hS4.only0 ((Only.refl _ _).drewN kh))
                    | (go_at_call 13; refine (left_any hS5).mono ?_; rintro e w' ⟨rfl, rfl⟩))
                  go_roundw
                  case rel => exact ⟨k + 1, by omega, by go_num, _, _, _, hO4.drewN kh, hS5, hbud.out⟩
                  case measure => simp [intOf]; omega
                | true =>
                  have hnz : (s'.left == 0) = false := by
                    have : ¬ s'.left = 0 := fun h0 => by rw [high_left h0] at hh; cases hh
                    simpa using this
                  have HH := hide hh
                  clear hh
                  have hhi := high_any hS4
                  rw [HH.out] at hhi
                  have HI := hide hhi
                  clear hhi
                  go_wp2_with (first
                    | (go_at_call 13; refine (left_any hS4).mono ?_; rintro e w' ⟨rfl, rfl⟩)
                    | (go_at_call 15; refine HI.out.mono ?_; rintro e w' ⟨rfl, kh, rfl⟩; have hS5 := hS4.only0 ((Only.refl _ _).drewN kh))
                    | (go_at_call 13; refine (left_any hS5).mono ?_; rintro e w' ⟨rfl, rfl⟩))
                  go_roundw
                  case rel => exact ⟨k + 1, by omega, by go_num, _, _, _, hO4.drewN kh, hS5, hbud.out⟩
                  case measure => simp [intOf]; omega
          by_cases g3 : kd = 3
          · subst g3
            clear g1 g2
            go_wp2_with fail
            refine (stopAt_any t hS hO.size).mono ?_
            rintro e w2 ⟨rfl, o2, ⟨A', c', hS', _⟩⟩
            have hO' := Sv.step hO hS (Nat.le_refl _) o2
            have hb' : (sStopAt s t).1.budget = b := (budget_stop s t).trans HB.out
            generalize (sStopAt s t).1 = s' at hS' hb'
            have hH := hide hS'.good
            have hbud := hide hb'
            clear hb'
            go_wp2_with fail
            refine (active_any hS').mono ?_
            rintro e wq ⟨rfl, ka, rfl⟩
            have hO2 := hO'.drewN ka
            have hS2 := hS'.only0 ((Only.refl _ _).drewN ka)
            have hl0 := hH.out.l0
            have hu0 := hH.out.u0
            have hps := psum_nonneg hH.out.amt
            have htot := hide hH.out.total
            have hsum : s'.left + s'.used + psum s'.ps ≤ 1099511627776 := by have := htot.out; have := hH.out.bp; have := hH.out.pm; omega
            go_wp2_with (go_at_call 13; refine (left_any hS2).mono ?_; rintro e w' ⟨rfl, rfl⟩)
            refine (pieces_any hS2).mono ?_
            rintro e wp ⟨⟨A2, c2, rfl, hown⟩, op⟩
            have hO3 := hO2.trans0 op
            have hS3 := hS2.only0 op
            have hsrc := hide (PSrc.own hown)
            have hlen16 : s'.ps.length ≤ 16 := by have := hH.out.len; have := hH.out.m16; omega
            clear hown
            go_wp2_with fail
            go_loopw [13, 16] (fun v i wr => ∃ j : Nat, j ≤ s'.ps.length ∧ i = .int .i64 j ∧ v = .int .i64 (s'.used + s'.left + psum (s'.ps.take j)) ∧ ∃ m, wp.drewN m = wr) (fun v i _ => s'.ps.length - (intOf i).toNat)
            case atStart => exact ⟨0, Nat.zero_le _, rfl, by simp [psum], 0, rfl⟩
            case round =>
              obtain ⟨j, hj, rfl, rfl, mj, rfl⟩ := hrel
              by_cases hjl : j < s'.ps.length
              · obtain ⟨q, hq⟩ : ∃ q, s'.ps[j]? = some q := ⟨_, List.getElem?_eq_getElem hjl⟩
                obtain ⟨ga, rfl, hc⟩ := hsrc.out (by omega)
                obtain ⟨e0, e1⟩ := PV_get s'.ps j q hq
                have q1 : wp.cell? ⟨ga, j * 2 + 1, none⟩ = some (.int .i64 q.2) := (hc (j * 2 + 1) (by omega)).trans e1
                have hqa := hH.out.amt q (List.mem_of_getElem? hq)
                have hsucc := hide (psum_take_succ s'.ps j q hq)
                have hle := psum_take_le (j + 1) hH.out.amt
                have hle0 := psum_take_le j hH.out.amt
                have hge := psum_nonneg (fun p hp => hH.out.amt p (List.mem_of_mem_take hp) : ∀ p ∈ s'.ps.take j, 1 ≤ p.2)
                have hrs : psum (s'.ps.take j) + q.2 ≤ psum s'.ps := by have := hsucc.out; omega
                have i0 : (0 : Int) ≤ (j : Int) := by omega
                have i1 : (j : Int) < (s'.ps.length : Int) := by omega
                have dq : decide (q.2 < 1) = false := by simp; omega
                clear hc e0 e1 hq hle
                go_wp2_with fail
                go_roundw
                case rel => exact ⟨j + 1, by omega, by go_num, by rw [hsucc.out]; go_num, _, rfl⟩
                case measure => simp [intOf]; omega
              · have hje : j = s'.ps.length := by omega
                subst hje
                rw [List.take_length]
                have hS4 := hS3.only0 ((Only.refl _ _).drewN mj)
                have hO4 := hO3.drewN mj
                have he : s'.used + s'.left + psum s'.ps = b := by have := htot.out; have := hbud.out; omega
                rw [he]
                clear he hsum hsrc hS3 hO3
                generalize wp.drewN mj = wy at hS4 hO4 ⊢
                have hng : decide (s'.left < 0) = false := by simp; omega
                cases hh : high s' with
                | false =>
                  have HH := hide hh
                  clear hh
                  have hhi := high_any hS4
                  rw [HH.out] at hhi
                  have HI := hide hhi
                  clear hhi
                  go_wp2_with (first
                    | (go_at_call 13; refine (left_any hS4).mono ?_; rintro e w' ⟨rfl, rfl⟩)
                    | (go_at_call 15; refine HI.out.mono ?_; rintro e w' ⟨rfl, kh, rfl⟩; have hS5 := hS4.only0 ((Only.refl _ _).drewN kh))
                    | (go_at_call 13; refine (left_any hS5).mono ?_; rintro e w' ⟨rfl, rfl⟩))
                  go_roundw
                  case rel => exact ⟨k + 1, by omega, by go_num, _, _, _, hO4.drewN kh, hS5, hbud.out⟩
                  case measure => simp [intOf]; omega
                | true =>
                  have hnz : (s'.left == 0) = false := by
                    have : ¬ s'.left = 0 := fun h0 => by rw [high_left h0] at hh; cases hh
                    simpa using this
                  have HH := hide hh
                  clear hh
                  have hhi := high_any hS4
                  rw [HH.out] at hhi
                  have HI := hide hhi
                  clear hhi
                  go_wp2_with (first
                    | (go_at_call 13; refine (left_any hS4).mono ?_; rintro e w' ⟨rfl, rfl⟩)
                    | (go_at_call 15; refine HI.out.mono ?_; rintro e w' ⟨rfl, kh, rfl⟩; have hS5 := hS4.only0 ((Only.refl _ _).drewN kh))
                    | (go_at_call 13; refine (left_any hS5).mono ?_; rintro e w' ⟨rfl, rfl⟩))
                  go_roundw
                  case rel => exact ⟨k + 1, by omega, by go_num, _, _, _, hO4.drewN kh, hS5, hbud.out⟩
                  case measure => simp [intOf]; omega
          by_cases g4 : kd = 4
          · subst g4
            clear g1 g2 g3
            go_wp2_with fail
            refine (due_any t hS hO.size).mono ?_
            rintro e w2 ⟨rfl, o2, ⟨A', c', hS', _⟩⟩
            have hO' := Sv.step hO hS (Nat.le_refl _) o2
            have hb' : (sDue s t).budget = b := HB.out
            generalize sDue s t = s' at hS' hb'
            have hH := hide hS'.good
            have hbud := hide hb'
            clear hb'
            go_wp2_with fail
            refine (active_any hS').mono ?_
            rintro e wq ⟨rfl, ka, rfl⟩
            have hO2 := hO'.drewN ka
            have hS2 := hS'.only0 ((Only.refl _ _).drewN ka)
            have hl0 := hH.out.l0
            have hu0 := hH.out.u0
            have hps := psum_nonneg hH.out.amt
            have htot := hide hH.out.total
            have hsum : s'.left + s'.used + psum s'.ps ≤ 1099511627776 := by have := htot.out; have := hH.out.bp; have := hH.out.pm; omega
            go_wp2_with (go_at_call 13; refine (left_any hS2).mono ?_; rintro e w' ⟨rfl, rfl⟩)
            refine (pieces_any hS2).mono ?_
            rintro e wp ⟨⟨A2, c2, rfl, hown⟩, op⟩
            have hO3 := hO2.trans0 op
            have hS3 := hS2.only0 op
            have hsrc := hide (PSrc.own hown)
            have hlen16 : s'.ps.length ≤ 16 := by have := hH.out.len; have := hH.out.m16; omega
            clear hown
            go_wp2_with fail
            go_loopw [13, 16] (fun v i wr => ∃ j : Nat, j ≤ s'.ps.length ∧ i = .int .i64 j ∧ v = .int .i64 (s'.used + s'.left + psum (s'.ps.take j)) ∧ ∃ m, wp.drewN m = wr) (fun v i _ => s'.ps.length - (intOf i).toNat)
            case atStart => exact ⟨0, Nat.zero_le _, rfl, by simp [psum], 0, rfl⟩
            case round =>
              obtain ⟨j, hj, rfl, rfl, mj, rfl⟩ := hrel
              by_cases hjl : j < s'.ps.length
              · obtain ⟨q, hq⟩ : ∃ q, s'.ps[j]? = some q := ⟨_, List.getElem?_eq_getElem hjl⟩
                obtain ⟨ga, rfl, hc⟩ := hsrc.out (by omega)
                obtain ⟨e0, e1⟩ := PV_get s'.ps j q hq
                have q1 : wp.cell? ⟨ga, j * 2 + 1, none⟩ = some (.int .i64 q.2) := (hc (j * 2 + 1) (by omega)).trans e1
                have hqa := hH.out.amt q (List.mem_of_getElem? hq)
                have hsucc := hide (psum_take_succ s'.ps j q hq)
                have hle := psum_take_le (j + 1) hH.out.amt
                have hle0 := psum_take_le j hH.out.amt
                have hge := psum_nonneg (fun p hp => hH.out.amt p (List.mem_of_mem_take hp) : ∀ p ∈ s'.ps.take j, 1 ≤ p.2)
                have hrs : psum (s'.ps.take j) + q.2 ≤ psum s'.ps := by have := hsucc.out; omega
                have i0 : (0 : Int) ≤ (j : Int) := by omega
                have i1 : (j : Int) < (s'.ps.length : Int) := by omega
                have dq : decide (q.2 < 1) = false := by simp; omega
                clear hc e0 e1 hq hle
                go_wp2_with fail
                go_roundw
                case rel => exact ⟨j + 1, by omega, by go_num, by rw [hsucc.out]; go_num, _, rfl⟩
                case measure => simp [intOf]; omega
              · have hje : j = s'.ps.length := by omega
                subst hje
                rw [List.take_length]
                have hS4 := hS3.only0 ((Only.refl _ _).drewN mj)
                have hO4 := hO3.drewN mj
                have he : s'.used + s'.left + psum s'.ps = b := by have := htot.out; have := hbud.out; omega
                rw [he]
                clear he hsum hsrc hS3 hO3
                generalize wp.drewN mj = wy at hS4 hO4 ⊢
                have hng : decide (s'.left < 0) = false := by simp; omega
                cases hh : high s' with
                | false =>
                  have HH := hide hh
                  clear hh
                  have hhi := high_any hS4
                  rw [HH.out] at hhi
                  have HI := hide hhi
                  clear hhi
                  go_wp2_with (first
                    | (go_at_call 13; refine (left_any hS4).mono ?_; rintro e w' ⟨rfl, rfl⟩)
                    | (go_at_call 15; refine HI.out.mono ?_; rintro e w' ⟨rfl, kh, rfl⟩; have hS5 := hS4.only0 ((Only.refl _ _).drewN kh))
                    | (go_at_call 13; refine (left_any hS5).mono ?_; rintro e w' ⟨rfl, rfl⟩))
                  go_roundw
                  case rel => exact ⟨k + 1, by omega, by go_num, _, _, _, hO4.drewN kh, hS5, hbud.out⟩
                  case measure => simp [intOf]; omega
                | true =>
                  have hnz : (s'.left == 0) = false := by
                    have : ¬ s'.left = 0 := fun h0 => by rw [high_left h0] at hh; cases hh
                    simpa using this
                  have HH := hide hh
                  clear hh
                  have hhi := high_any hS4
                  rw [HH.out] at hhi
                  have HI := hide hhi
                  clear hhi
                  go_wp2_with (first
                    | (go_at_call 13; refine (left_any hS4).mono ?_; rintro e w' ⟨rfl, rfl⟩)
                    | (go_at_call 15; refine HI.out.mono ?_; rintro e w' ⟨rfl, kh, rfl⟩; have hS5 := hS4.only0 ((Only.refl _ _).drewN kh))
                    | (go_at_call 13; refine (left_any hS5).mono ?_; rintro e w' ⟨rfl, rfl⟩))
                  go_roundw
                  case rel => exact ⟨k + 1, by omega, by go_num, _, _, _, hO4.drewN kh, hS5, hbud.out⟩
                  case measure => simp [intOf]; omega
          · have e1 : (kd == 1) = false := by simpa using g1
            have e2 : (kd == 2) = false := by simpa using g2
            have e3 : (kd == 3) = false := by simpa using g3
            have e4 : (kd == 4) = false := by simpa using g4
            clear g1 g2 g3 g4
            have hO' := hO
            have hS' := hS
            have hb' := HB.out
            have hH := hide hS'.good
            have hbud := hide hb'
            clear hb'
            go_wp2_with fail
            refine (active_any hS').mono ?_
            rintro e wq ⟨rfl, ka, rfl⟩
            have hO2 := hO'.drewN ka
            have hS2 := hS'.only0 ((Only.refl _ _).drewN ka)
            have hl0 := hH.out.l0
            have hu0 := hH.out.u0
            have hps := psum_nonneg hH.out.amt
            have htot := hide hH.out.total
            have hsum : s.left + s.used + psum s.ps ≤ 1099511627776 := by have := htot.out; have := hH.out.bp; have := hH.out.pm; omega
            go_wp2_with (go_at_call 13; refine (left_any hS2).mono ?_; rintro e w' ⟨rfl, rfl⟩)
            refine (pieces_any hS2).mono ?_
            rintro e wp ⟨⟨A2, c2, rfl, hown⟩, op⟩
            have hO3 := hO2.trans0 op
            have hS3 := hS2.only0 op
            have hsrc := hide (PSrc.own hown)
            have hlen16 : s.ps.length ≤ 16 := by have := hH.out.len; have := hH.out.m16; omega
            clear hown
            go_wp2_with fail
            go_loopw [13, 16] (fun v i wr => ∃ j : Nat, j ≤ s.ps.length ∧ i = .int .i64 j ∧ v = .int .i64 (s.used + s.left + psum (s.ps.take j)) ∧ ∃ m, wp.drewN m = wr) (fun v i _ => s.ps.length - (intOf i).toNat)
            case atStart => exact ⟨0, Nat.zero_le _, rfl, by simp [psum], 0, rfl⟩
            case round =>
              obtain ⟨j, hj, rfl, rfl, mj, rfl⟩ := hrel
              by_cases hjl : j < s.ps.length
              · obtain ⟨q, hq⟩ : ∃ q, s.ps[j]? = some q := ⟨_, List.getElem?_eq_getElem hjl⟩
                obtain ⟨ga, rfl, hc⟩ := hsrc.out (by omega)
                obtain ⟨e0, e1⟩ := PV_get s.ps j q hq
                have q1 : wp.cell? ⟨ga, j * 2 + 1, none⟩ = some (.int .i64 q.2) := (hc (j * 2 + 1) (by omega)).trans e1
                have hqa := hH.out.amt q (List.mem_of_getElem? hq)
                have hsucc := hide (psum_take_succ s.ps j q hq)
                have hle := psum_take_le (j + 1) hH.out.amt
                have hle0 := psum_take_le j hH.out.amt
                have hge := psum_nonneg (fun p hp => hH.out.amt p (List.mem_of_mem_take hp) : ∀ p ∈ s.ps.take j, 1 ≤ p.2)
                have hrs : psum (s.ps.take j) + q.2 ≤ psum s.ps := by have := hsucc.out; omega
                have i0 : (0 : Int) ≤ (j : Int) := by omega
                have i1 : (j : Int) < (s.ps.length : Int) := by omega
                have dq : decide (q.2 < 1) = false := by simp; omega
                clear hc e0 e1 hq hle
                go_wp2_with fail
                go_roundw
                case rel => exact ⟨j + 1, by omega, by go_num, by rw [hsucc.out]; go_num, _, rfl⟩
                case measure => simp [intOf]; omega
              · have hje : j = s.ps.length := by omega
                subst hje
                rw [List.take_length]
                have hS4 := hS3.only0 ((Only.refl _ _).drewN mj)
                have hO4 := hO3.drewN mj
                have he : s.used + s.left + psum s.ps = b := by have := htot.out; have := hbud.out; omega
                rw [he]
                clear he hsum hsrc hS3 hO3
                generalize wp.drewN mj = wy at hS4 hO4 ⊢
                have hng : decide (s.left < 0) = false := by simp; omega
                cases hh : high s with
                | false =>
                  have HH := hide hh
                  clear hh
                  have hhi := high_any hS4
                  rw [HH.out] at hhi
                  have HI := hide hhi
                  clear hhi
                  go_wp2_with (first
                    | (go_at_call 13; refine (left_any hS4).mono ?_; rintro e w' ⟨rfl, rfl⟩)
                    | (go_at_call 15; refine HI.out.mono ?_; rintro e w' ⟨rfl, kh, rfl⟩; have hS5 := hS4.only0 ((Only.refl _ _).drewN kh))
                    | (go_at_call 13; refine (left_any hS5).mono ?_; rintro e w' ⟨rfl, rfl⟩))
                  go_roundw
                  case rel => exact ⟨k + 1, by omega, by go_num, _, _, _, hO4.drewN kh, hS5, hbud.out⟩
                  case measure => simp [intOf]; omega
                | true =>
                  have hnz : (s.left == 0) = false := by
                    have : ¬ s.left = 0 := fun h0 => by rw [high_left h0] at hh; cases hh
                    simpa using this
                  have HH := hide hh
                  clear hh
                  have hhi := high_any hS4
                  rw [HH.out] at hhi
                  have HI := hide hhi
                  clear hhi
                  go_wp2_with (first
                    | (go_at_call 13; refine (left_any hS4).mono ?_; rintro e w' ⟨rfl, rfl⟩)
                    | (go_at_call 15; refine HI.out.mono ?_; rintro e w' ⟨rfl, kh, rfl⟩; have hS5 := hS4.only0 ((Only.refl _ _).drewN kh))
                    | (go_at_call 13; refine (left_any hS5).mono ?_; rintro e w' ⟨rfl, rfl⟩))
                  go_roundw
                  case rel => exact ⟨k + 1, by omega, by go_num, _, _, _, hO4.drewN kh, hS5, hbud.out⟩
                  case measure => simp [intOf]; omega
        · go_wp2_with (go_at_call 7; refine (known_any _).mono ?_; rintro e wa ⟨rfl, oa⟩)
          go_ret
          exact ⟨rfl, hO.trans0 oa⟩

theorem own : ownKnob Try.prog.godebug = none := by kernel_rfl
theorem laidOut : laidOutB Try.prog = true := by kernel_rfl

set_option maxRecDepth 100000 in
theorem lifted (os : Os) (started : os.Started) (H : Type) (enc : TypeId × Value → H) :
    ReturnsInHanded {} Try.checked os 3 .any (Rows.serverKeepsSpec.pre6 enc Try.prog Try.f3 Rows.serverKeepsRow.domain false) (Rows.serverKeepsSpec.post enc Try.prog Try.f3 false true false false) := by
  refine returnsInHanded_of_change (C := Try.checked) own started (by kernel_rfl) Try.func3
    (ChangeSpec.witness6 (enc := enc) (C := Try.checked) false ⟨#[], #[.int .i64 0, .int .i64 0, .int .i64 0, .slice none 0 0], []⟩ 8 (by kernel_rfl) (by kernel_rfl) (by kernel_rfl) (by kernel_rfl)) ?_
  intro W base args ds gs before hval0 hW hcnd _
  have hval : ∀ (j : Nat) t v, Try.f3.params[j]? = some t → args[j]? = some v → Value.okWide Try.prog W .any base t v := hval0
  have hW' := hW
  obtain ⟨p, q, hA0, hV, rfl, hfz, hnd⟩ := hW
  have hA : DataW.TrodAll enc Try.prog W 0 (fun _ => true) true Try.f3.params.toList args.toList ds p := hA0
  rw [Try.params3] at hA hval
  obtain ⟨v0, vs0, d0, ds0, p0, q0, hargs, rfl, rfl, h0, r0⟩ := trodAll_cons hA
  obtain ⟨v1, vs1, d1, ds1, p1, q1, rfl, rfl, rfl, h1, r1⟩ := trodAll_cons r0
  obtain ⟨v2, vs2, d2, ds2, p2, q2, rfl, rfl, rfl, h2, r2⟩ := trodAll_cons r1
  obtain ⟨v3, vs3, d3, ds3, p3, q3, rfl, rfl, rfl, h3, r3⟩ := trodAll_cons r2
  obtain ⟨rfl, rfl, rfl⟩ := trodAll_nil r3
  obtain rfl : args = #[v0, v1, v2, v3] := by cases args; simp_all
  obtain ⟨rfl, rfl⟩ := trodVars_none hV
  have k3 := h3
  have lt3 : ∀ x ∈ p3, x.block < W.heap.size := by obtain ⟨m, hm⟩ := k3; exact DataW.trod_lt m _ _ _ hm
  obtain ⟨a0, rfl, rfl, rfl, w0⟩ := open_int Try.underlying2 (hval 0 2 v0 rfl rfl) h0
  obtain ⟨a1, rfl, rfl, rfl, w1⟩ := open_int Try.underlying2 (hval 1 2 v1 rfl rfl) h1
  obtain ⟨a2, rfl, rfl, rfl, w2⟩ := open_int Try.underlying3 (hval 2 3 v2 rfl rfl) h2
  obtain ⟨A, n, c, rfl, hn, hst⟩ : ∃ (A : Option Addr) (n c : Nat), v3 = .slice A n c ∧ n ≤ maxLen ∧ StepsAt W A n := by
    obtain ⟨fuel, hf⟩ := h3
    obtain ⟨A, n, c, rfl⟩ := okWide_slice Try.underlying22 (hval 3 22 v3 rfl rfl)
    rcases open_slice_fields Try.underlying22 Try.underlying29 (by kernel_rfl) (by kernel_rfl) hf with ⟨hcs, _⟩ | ⟨a, len, cap, m, D, Pl, hcs, _, hl, hm, hmm, _, hfs⟩
    · simp [Value.cells] at hcs
      obtain ⟨rfl, rfl, rfl⟩ := hcs
      exact ⟨none, 0, 0, rfl, Nat.zero_le _, fun k hk => by omega⟩
    · simp [Value.cells] at hcs
      obtain ⟨rfl, rfl, rfl⟩ := hcs
      refine ⟨_, _, _, rfl, by omega, fun k hk => ?_⟩
      have hmk : n ≤ m := by rw [hmm]; split <;> omega
      obtain ⟨ys, nn, _, _, _, hf2⟩ := hfs k (by omega)
      obtain ⟨u0, y0, hc0, _, ht0⟩ := hf2 0 _ rfl
      obtain ⟨u1, y1, hc1, _, ht1⟩ := hf2 1 _ rfl
      obtain ⟨x0, e0, _⟩ := DataW.trod_int Try.underlying3 ht0
      obtain ⟨x1, e1, _⟩ := DataW.trod_int Try.underlying2 ht1
      simp at e0 e1
      subst e0 e1
      exact ⟨_, x0, x1, rfl, hc0, hc1⟩
  clear hA0 hval0
  refine (walk a0 a1 a2 A n c W hst hn).mono fun e W' ⟨he, hg⟩ => ?_
  subst he
  have bel := hg.below
  exact ⟨_, rfl, _, _, _, [], _, [], hW', trodAll_mk1 (shut_bool Try.underlying4 _), (trodAll_cons_mk (shut_int Try.underlying2 w0) (trodAll_cons_mk (shut_int Try.underlying2 w1) (trodAll_cons_mk (shut_int Try.underlying3 w2) (trodAll_cons_mk (Below.trod laidOut (by kernel_rfl) (of_decide_eq_true (by kernel_rfl)) k3 bel lt3) trodAll_mk0)))), rfl, bel.frame _, fun h => by cases h⟩

theorem over : Rows.serverKeepsRow.holds Try.pinned (OpenSpec.ofChange Rows.serverKeepsSpec) :=
  OpenClaim.holds_of_wide 3 Try.f3 rfl rfl rfl rfl rfl rfl rfl ⟨rfl, rfl, rfl, rfl, rfl⟩ rfl rfl rfl rfl rfl (by kernel_rfl) Try.func3 (by kernel_rfl)
    (of_decide_eq_true (by kernel_rfl)) (by unfold Func.isWrapper; first | (rw [if_pos (by decide +kernel)]; kernel_rfl) | (rw [if_neg (by decide +kernel)]; exact ⟨rfl, rfl⟩))
    (fun os started H enc _ => lifted os started H enc)

theorem proved : Rows.ServerKeepsSaid := over
#print axioms proved
end Go.Proofs.Ytidllhnldhnoeaa.serverKeeps
