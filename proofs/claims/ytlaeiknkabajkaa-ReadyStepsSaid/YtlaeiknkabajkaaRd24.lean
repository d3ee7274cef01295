/- Ready lists: the walk of ReadyFirst. Condition: the script's cells lie. -/
import Derived.Test.YtlaeiknkabajkaaRd23
namespace Go.Proofs.Ytlaeiknkabajkaa
open Go.RowKit Go.Shelf
set_option linter.unusedVariables false
set_option linter.all false
set_option maxRecDepth 20000

theorem below_head (q : Nat → List Nat) : ∀ (P p t : Nat) (rest : List (Nat × Nat)), below q P = (p, t) :: rest → p < P ∧ ∃ r, q p = t :: r ∧ below (setq q p r) P = rest
  | 0, p, t, rest, h => by simp [below] at h
  | P + 1, p, t, rest, h => by
    rw [below] at h
    cases hq : q P with
    | nil =>
      rw [hq, List.map_nil, List.nil_append] at h
      obtain ⟨h1, r, h2, h3⟩ := below_head q P p t rest h
      refine ⟨by omega, r, h2, ?_⟩
      rw [below, setq_other _ _ (show P ≠ p by omega), hq, List.map_nil, List.nil_append, h3]
    | cons t' r' =>
      rw [hq, List.map_cons, List.cons_append] at h
      injection h with h1 h2
      injection h1 with h3 h4
      subst h3 h4
      refine ⟨by omega, r', hq, ?_⟩
      rw [below, setq_same, ← h2]
      congr 1
      exact below_congr P (fun j hj => setq_other _ _ (by omega))
theorem below_down (q : Nat → List Nat) : ∀ P, (below q P).Pairwise (fun x y => y.1 ≤ x.1)
  | 0 => by simp [below]
  | P + 1 => by
    rw [below, List.pairwise_append]
    refine ⟨?_, below_down q P, fun x hx y hy => ?_⟩
    · rw [List.pairwise_map]
      exact List.pairwise_of_forall (fun _ _ => Nat.le_refl _)
    · obtain ⟨t, _, rfl⟩ := List.mem_map.1 hx
      have := ((mem_below q P y).1 hy).1
      show y.1 ≤ P
      omega
/-- The first one of all: its priority, its place, and what is left without it. -/
theorem RL.first {w : World} {g : Nat} {q : Nat → List Nat} {st : Int} (h : RL w g q st) {p t : Nat} {rest : List (Nat × Nat)} (ha : allQ q = (p, t) :: rest) :
    prioQ q t = p ∧ 1 ≤ p ∧ p ≤ 31 ∧ t < 16 ∧ allQ (remQ q t) = rest ∧ remC q t = 0 ∧ (∀ x ∈ rest, x.1 ≤ p) ∧ ∀ x ∈ rest, x.2 ≠ t := by
  obtain ⟨s, prio, bits, _, hR⟩ := h
  obtain ⟨h1, r, h2, h3⟩ := below_head q 32 p t rest ha
  have hm : t ∈ q p := by rw [h2]; simp
  obtain ⟨p1, p2⟩ := hR.out p t hm
  have ht := hR.lt p t hm
  have hpr := hR.prioQ ht
  rw [hR.pr1 p t hm] at hpr
  have hpq : prioQ q t = p := by omega
  have hc : remC q t = 0 := by
    unfold remC
    rw [if_neg (by simp; omega), if_neg (by rw [Int.toNat_natCast, hpq]; omega)]
  have hd := below_down q 32
  have hn := hR.nodup_below 32
  have ha' : below q 32 = (p, t) :: rest := ha
  rw [ha'] at hd hn
  rw [List.map_cons, List.nodup_cons] at hn
  refine ⟨hpq, p1, p2, ht, ?_, hc, (List.pairwise_cons.1 hd).1, fun x hx e => hn.1 (List.mem_map.2 ⟨x, hx, e⟩)⟩
  unfold remQ
  rw [if_pos hc, Int.toNat_natCast, hpq, h2, List.erase_cons_head]
  exact h3
/-- What the law's slice of steps holds: three ints a step. -/
def StepsAt (w : World) (A : Option Addr) (n : Nat) : Prop := ∀ k, k < n → ∃ (a : Addr) (kd p t : Int), A = some a ∧ w.cell? (a.add (k * 3)) = some (.int .i64 kd) ∧ w.cell? ⟨(a.add (k * 3)).block, (a.add (k * 3)).off + 1, none⟩ = some (.int .i64 p) ∧ w.cell? ⟨(a.add (k * 3)).block, (a.add (k * 3)).off + 2, none⟩ = some (.int .i64 t)
theorem StepsAt.only0 {w w' : World} {A : Option Addr} {n : Nat} (h : StepsAt w A n) (ho : Only [] w w') : StepsAt w' A n := fun k hk => by
  obtain ⟨a, kd, p, t, rfl, h0, h1, h2⟩ := h k hk
  exact ⟨a, kd, p, t, rfl, ho.keep0 h0, ho.keep0 h1, ho.keep0 h2⟩
/-- The cells of a list of the document's that nobody made. -/
def Z29 : Array Value := Array.replicate 32 (.slice none 0 0)
theorem info29 : (Try.prog.info? 29).map (fun i => (i.zero, i.size)) = some (some (.agg Z29), 32) := by kernel_rfl
theorem zero29 (W : World) : (zeroValue 29).run Try.prog W = .ok (.agg Z29) W := (zero_of_info info29).1 W
theorem DQ_new (W : World) : DQ (W.alloc (.cells Z29 29)) W.heap.size (fun _ => []) :=
  ⟨Z29, fun _ => none, fun _ => 0, Blk.new W 29 Z29, by simp [Z29], fun i hi => ⟨by unfold Z29; rw [Array.getElem?_replicate, if_pos hi]; rfl, fun h => by simp at h⟩⟩
/-- How the law's loop stands. -/
def Stands (w : World) (d n : Nat) (vr vi : Value) (wr : World) : Prop :=
  ∃ (k g : Nat) (q : Nat → List Nat) (st : Int), vr = .pointer (some ⟨g, 0, none⟩) ∧ vi = .int .i64 k ∧ k ≤ n ∧ k ≤ 200 ∧ 0 ≤ st ∧ st ≤ 20 * k ∧ RL wr g q st ∧ DQ wr d q ∧ Only [] w wr ∧ w.heap.size ≤ g
def Z41 : Array Value := Array.replicate 16 (.bool false)
theorem info41 : (Try.prog.info? 41).map (fun i => (i.zero, i.size)) = some (some (.agg Z41), 16) := by kernel_rfl
theorem zero41 (W : World) : (zeroValue 41).run Try.prog W = .ok (.agg Z41) W := (zero_of_info info41).1 W
/-- How the law's second loop stands. -/
def Stands2 (w : World) (g b N : Nat) (vl vi : Value) (wr : World) : Prop :=
  ∃ (i : Nat) (q : Nat → List Nat) (st last : Int) (S : Nat → Bool) (cs : Array Value), vl = .int .i64 last ∧ vi = .int .i64 i ∧ i + (allQ q).length = N ∧ (∀ x ∈ allQ q, (x.1 : Int) ≤ last) ∧ Blk wr b 41 cs ∧ cs.size = 16 ∧ (∀ t, t < 16 → cs[t]? = some (.bool (S t))) ∧ (∀ x ∈ allQ q, S x.2 = false) ∧
    0 ≤ st ∧ st ≤ 4000 + 5 * i ∧ RL wr g q st ∧ Only [] w wr
theorem Stands2.start (w W : World) (g : Nat) (q : Nat → List Nat) (st : Int) (h : RL W g q st) (h0 : 0 ≤ st) (h1 : st ≤ 4000) (ho : Only [] w W) : Stands2 w g W.heap.size (allQ q).length (.int .i64 32) (.int .i64 0) (W.alloc (.cells Z41 41)) := by
  refine ⟨0, q, st, 32, fun _ => false, Z41, rfl, rfl, by simp, fun x hx => ?_, Blk.new W 41 Z41, by simp [Z41], fun t ht => by unfold Z41; rw [Array.getElem?_replicate, if_pos ht], fun _ _ => rfl, h0, by omega, h.only ((Only.refl [] W).alloc _) (by simp), ho.alloc _⟩
  have := ((mem_below q 32 x).1 hx).1
  omega
set_option maxHeartbeats 4000000 in
theorem first_walk (A : Option Addr) (n c : Nat) (w : World) (hA : StepsAt w A n) (hn : n ≤ maxLen) : Calls Try.prog 5 #[.slice A n c] w fun e w' => e = .returned (.bool true) ∧ Only [] w w' := by
  have HA := hide hA
  clear hA
  have hZ := zero29
  unfold maxLen at hn
  go_enter Try.func5, Try.ntmps5
  go_wp2_with (first
    | (go_at_call 10; refine (known_any _).mono ?_; rintro e w1 ⟨rfl, o1⟩)
    | (go_at_call 6; refine (new_any _).mono ?_; rintro e w2 ⟨rfl, R2, o2⟩; unfold ptr))
  have D3 := DQ_new w2
  have R3 : RL (w2.alloc (.cells Z29 29)) w1.heap.size (fun _ => []) 0 := R2.only ((Only.refl [] w2).alloc _) (by simp)
  have O3 : Only [] w (w2.alloc (.cells Z29 29)) := (o1.trans0 o2).alloc _
  obtain ⟨d, hd⟩ : ∃ d, w2.heap.size = d := ⟨_, rfl⟩
  have hs1 := o1.size
  have hs2 := o2.size
  obtain ⟨g0, hg0⟩ : ∃ g0, w1.heap.size = g0 := ⟨_, rfl⟩
  rw [hd] at D3
  rw [hg0] at R3
  rw [hd, hg0]
  have hdw : w.heap.size ≤ d := by omega
  have hgw : w.heap.size ≤ g0 := by omega
  clear hZ R2 o1 o2 hs1 hs2 hd
  go_loopw [3, 4, 5, 6] (fun vr vq vi _ wr => vq = .pointer (some ⟨d, 0, none⟩) ∧ Stands w d n vr vi wr) (fun _ _ vi _ _ => n - (intOf vi).toNat)
  case atStart => exact ⟨rfl, 0, g0, _, 0, rfl, rfl, Nat.zero_le _, Nat.zero_le _, by decide, by decide, R3, D3, O3, hgw⟩
  case round =>
    obtain ⟨rfl, k, g, q, st, rfl, rfl, hk, hk2, h0, hst, hR, hD, hO, hgg⟩ := hrel
    have HK := hide hk2
    have H0 := hide h0
    have HS := hide hst
    have HR := hide hR
    have HD := hide hD
    have HO := hide hO
    clear hk2 h0 hst hR hD hO R3 D3 O3
    by_cases hgo : k < n ∧ k < 200
    · obtain ⟨a, kd, p, t, rfl, e0, e1, e2⟩ := HA.out k hgo.1
      have c0 := HO.out.keep0 e0
      have c1 := HO.out.keep0 e1
      have c2 := HO.out.keep0 e2
      have j1 : (k : Int) < (n : Int) := by omega
      have j2 : (k : Int) < 200 := by omega
      have j0 : (0 : Int) ≤ (k : Int) := by omega
      have DO := hide (do_any g d q kd p t st (by have := H0.out; have := HS.out; omega) wr HR.out HD.out)
      unfold ptr at DO
      have hk1 := hgo.1
      have hk2 := hgo.2
      clear hgo e0 e1 e2
      go_wp2_with (go_at_call 7; refine DO.out.mono ?_; rintro e w3 ⟨g', st', rfl, s1, s2, R', D', O', hg'⟩; have HS1 := hide s1; have HS2 := hide s2; clear s1 s2)
      go_roundw
      case rel =>
        refine ⟨rfl, k + 1, g', _, st', rfl, by go_num, by omega, by omega, ?_, ?_, R', D', ?_, ?_⟩
        · have := H0.out; have := HS1.out; omega
        · have := HS.out; have := HS2.out; omega
        · exact HO.out.trans O' (fun x hx => .inr (by simp at hx; rcases hx with rfl | rfl <;> assumption))
        · have := HO.out.size
          rcases hg' with rfl | h
          · exact hgg
          · omega
      case measure => simp [intOf]; omega
    · have hl16 := HR.out.len
      have LN := hide (len_any g q st (by omega) wr HR.out)
      obtain ⟨N, hN⟩ : ∃ N, (allQ q).length = N := ⟨_, rfl⟩
      rw [hN] at LN hl16
      have ST := fun W (o : Only [] wr W) => Stands2.start w W g q st (HR.out.only o (by simp)) H0.out (by have := HS.out; have := HK.out; omega) (HO.out.trans0 o)
      rw [hN] at ST
      have ST := hide ST
      have HGG := hide hgg
      unfold ptr at LN
      have hZ := zero41
      clear hN hgg
      rcases (show ((k : Int) < (n : Int) ∧ ¬ ((k : Int) < 200)) ∨ ¬ ((k : Int) < (n : Int)) from by omega) with ⟨hA1, hA2⟩ | hA1
      all_goals (
        clear hgo
        go_wp2_with (go_at_call 12; refine LN.out.mono ?_; rintro e w4 ⟨rfl, o4⟩; have S4 := hide (ST.out _ o4))
        clear hZ
        obtain ⟨b, hb⟩ : ∃ b, w4.heap.size = b := ⟨_, rfl⟩
        have HBB := hide (show w.heap.size ≤ b by have h1 := HO.out.size; have h2 := o4.size; omega)
        rw [hb] at S4 ⊢
        clear hb
        go_loopw [7, 10, 11, 12, 13, 14] (fun vl vi _ _ _ _ wr => Stands2 w g b N vl vi wr) (fun _ vi _ _ _ _ _ => N - (intOf vi).toNat)
        case atStart => exact S4.out
        case round =>
          obtain ⟨i, q2, st2, last, S, cs, rfl, rfl, hiN, hlast, hB, hz, hcs, hS, s0, s1, hR, hO⟩ := hrel
          have hbg : b ≠ g := by obtain ⟨s, prio, bits, ⟨cs', hb', _⟩, _⟩ := hR; exact Blk.ne_ hB hb' (by decide)
          have hbw : w.heap.size ≤ b := HBB.out
          by_cases hiN2 : i < N
          · obtain ⟨p, t, rest, ha⟩ : ∃ p t rest, allQ q2 = (p, t) :: rest := by
              cases hq : allQ q2 with
              | nil => rw [hq] at hiN; simp at hiN; omega
              | cons x r => exact ⟨x.1, x.2, r, rfl⟩
            obtain ⟨a1, a2, a3, a4, a5, a6, a7, a8⟩ := hR.first ha
            have hpl : (p : Int) ≤ last := hlast (p, t) (by rw [ha]; simp)
            have hSt : S t = false := hS (p, t) (by rw [ha]; simp)
            have FI := first_spec g q2 st2 (by omega) wr hR
            rw [show firstT q2 = (t : Int) by unfold firstT; rw [ha], decide_eq_true (show allQ q2 ≠ [] by rw [ha]; simp)] at FI
            have FI := hide FI
            have PR := fun V st' (h : RL V g q2 st') => prio_spec g q2 st' t V h
            rw [if_pos (by omega), Int.toNat_natCast, a1] at PR
            have PR := hide PR
            have RM := fun V st' (hs : 0 ≤ st' ∧ st' < 1000000) (h : RL V g q2 st') => remove_spec g q2 st' hs t V h
            rw [a6] at RM
            have RM := hide RM
            have hpz := hide (show ((p : Nat) : Int) ≠ 0 by omega)
            have hct := hcs t a4
            have d1 : decide ((t : Int) < 0) = false := by simp
            have d2 : decide (15 < (t : Int)) = false := by simp; omega
            have d3 : decide (last < (p : Int)) = false := by simp; omega
            have j1 : (i : Int) < (N : Int) := by omega
            have j2 : (0 : Int) ≤ (t : Int) := by omega
            have j3 : (t : Int) < 16 := by omega
            have HO' := hide hO
            have hcs' := hide hcs
            rw [hSt] at hct
            unfold ptr at FI PR RM
            clear hcs hO hR hpl a6
            go_wp2_with (first
              | (go_at_call 13; refine FI.out.mono ?_; rintro e w5 ⟨he5, ⟨st5, t1, t2, R5⟩, o5⟩; unfold firstE at he5; subst he5; have T1 := hide t1; have T2 := hide t2; have B5 := hB.only o5 (by simp; exact hbg); have k5 := (B5.cell t).trans hct; clear t1 t2)
              | (go_at_call 14; refine (PR.out _ _ R5).mono ?_; rintro e w' ⟨he, hw⟩; obtain rfl := hw.symm; clear hw; unfold prioE at he; rw [decide_eq_true hpz.out] at he; subst he)
              | (go_at_call 16; refine (RM.out _ _ (by have := T1.out; have := T2.out; omega) R5).mono ?_; rintro e w6 ⟨rfl, ⟨st6, t3, t4, R6⟩, o6⟩; have T3 := hide t3; have T4 := hide t4; have B6 := B5.only o6 (by simp; exact hbg); have k6 := (B6.cell t).trans hct; have f6 := B6.frozen t; clear t3 t4)
              | (go_at_call 15; refine (num_any _ _).mono ?_; rintro e w' ⟨rfl, hw⟩; obtain rfl := hw.symm; clear hw))
            go_roundw
            case rel =>
              have u1 := T1.out
              have u2 := T2.out
              have u3 := T3.out
              have u4 := T4.out
              refine ⟨i + 1, remQ q2 t, st6, p, fun j => if j = t then true else S j, cs.setIfInBounds t (.bool true), rfl, by go_num, ?_, ?_, B6.set_ t _, by simpa using hz, ?_, ?_, by omega, by push_cast; omega, R6.only ((Only.refl [b] w6).setCell (p := ⟨b, t, none⟩) (.inl (by simp)) _) (by simp; exact Ne.symm hbg), ?_⟩
              · rw [a5]; rw [ha] at hiN; simp at hiN; omega
              · rw [a5]; intro x hx; exact Int.ofNat_le.2 (a7 x hx)
              · intro j hj
                by_cases e : j = t
                · subst e; rw [set_eq (by omega)]; simp
                · rw [set_ne (Ne.symm e), hcs'.out j hj]; simp [e]
              · rw [a5]
                intro x hx
                have h1 := a8 x hx
                have h2 := hS x (by rw [ha]; simp [hx])
                simp [h1, h2]
              · have hgS : ∀ k ∈ [g], w.heap.size ≤ k := fun k hk => by simp at hk; have := HGG.out; omega
                exact (only_in (only_in HO'.out o5 hgS) o6 hgS).setCell (p := ⟨b, t, none⟩) (.inr hbw) _
            case measure => simp [intOf]; omega
          · have hq0 : allQ q2 = [] := List.eq_nil_of_length_eq_zero (by omega)
            have hiNe : i = N := by omega
            have FI := first_spec g q2 st2 (by omega) wr hR
            rw [show firstT q2 = 0 by unfold firstT; rw [hq0], decide_eq_false (show ¬ (allQ q2 ≠ []) by rw [hq0]; simp)] at FI
            have FI := hide FI
            have LL := fun V st' (h : RL V g q2 st') => len_any g q2 st' (by rw [hq0]; simp) V h
            rw [hq0] at LL
            have LL := hide LL
            have j1 : ¬ (i : Int) < (N : Int) := by omega
            have j4 : (N : Int) ≤ 16 := by omega
            unfold ptr at FI LL
            have HO' := hide hO
            clear hO hR hcs hS hlast
            go_wp2_with (first
              | (go_at_call 13; refine FI.out.mono ?_; rintro e w5 ⟨he5, ⟨st5, t1, t2, R5⟩, o5⟩; unfold firstE at he5; subst he5)
              | (go_at_call 12; refine (LL.out _ _ R5).mono ?_; rintro e w6 ⟨rfl, o6⟩))
            go_ret
            exact ⟨rfl, (only_in HO'.out o5 (fun k hk => by simp at hk; have := HGG.out; omega)).trans0 o6⟩)
end Go.Proofs.Ytlaeiknkabajkaa
