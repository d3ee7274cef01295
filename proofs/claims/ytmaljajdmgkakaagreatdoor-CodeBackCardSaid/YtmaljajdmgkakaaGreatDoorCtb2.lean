/- Code: the walk of CodeBack, path 2 of its text. Condition: Env; the programs' cells. -/
import Derived.Test.YtmaljajdmgkakaaGreatDoorCtb
import Derived.Test.YtmaljajdmgkakaaGreatDoorCdF
namespace Go.Proofs.YtmaljajdmgkakaaGreatDoor
open Go.RowKit
set_option linter.unusedVariables false
set_option linter.all false
set_option maxRecDepth 20000
set_option maxHeartbeats 64000000 in
theorem back2 (A : Option Addr) (n c : Nat) (f : Nat → Ins) (B : Option Addr) (m c' : Nat) (g : Nat → Ins) (s : List UInt8) (w : World) (hA : InsAt w A n f) (hn : n ≤ maxLen) (hi : ∀ k, k < n → -9223372036854775808 ≤ (f k).imm ∧ (f k).imm ≤ 9223372036854775807) (hB : InsAt w B m g) (hm : m ≤ maxLen) (hj : ∀ k, k < m → -9223372036854775808 ≤ (g k).imm ∧ (g k).imm ≤ 9223372036854775807) (he : Env w) (hw4 : 4 ≤ w.heap.size) (hs20 : s.length ≤ 20000) (p : List Ins) (nn er : Int) (hr : readR s = (p, nn, er)) (her : (er == 0) = false) (q : List Ins) (hk : takeF s = some q) (hqg : Good q.length (fOf q)) (hqt : putB q.length (fOf q) = s) : Calls Tryz.prog 5 #[.slice A n c, .slice B m c', .string (bs s)] w fun e w' => e = .returned (.bool true) ∧ Only [] w w' := by
  by_cases n6 : 600 < n
  · have KN := hide (fun U (o : Only [] w U) => known_any U (he.only o) (by have := o.size; omega))
    have t0 : decide (((bs s).size : Int) ≤ 20000) = true := decide_eq_true (by rw [bs_size]; omega)
    have t1 : decide ((bs s).size ≤ 20000) = true := decide_eq_true (by rw [bs_size]; omega)
    have RD := fun U (o : Only [] w U) => read_walk s (by omega) U (he.only o) (by have := o.size; omega)
    have hrd := hr
    have RD := hide RD
    have HE := hide he
    have na0 : decide ((600 : Int) < (n : Int)) = true := decide_eq_true (by omega)
    have na1 : decide (600 < n) = true := decide_eq_true (by omega)
    have OC := hide (Only.refl [] w)
    clear hA hB hn hm hi hj he hw4
    go_enter Tryz.func5, Tryz.ntmps5
    go_wp2_with (first
      | (go_at_call 13; (with_reducible refine (KN.out _ OC.out).mono ?_); rintro e w1 ⟨rfl, o'⟩; have OC := hide (OC.out.trans0 o'); clear o')
      | (go_at_call 8; (with_reducible refine (RD.out _ OC.out).mono ?_); rintro e w2 ⟨⟨A3, c3, p3, n3, er3, rfl, hq3, i3⟩, o'⟩; rw [hr] at hq3; simp only [Prod.mk.injEq] at hq3; obtain ⟨rfl, rfl, rfl⟩ := hq3; have OC := hide (OC.out.trans0 o'); obtain ⟨cq, wq, hq, oq, sq⟩ := bytes_of w2 s; have OQ := hide (OC.out.trans0 oq); have SQ := hide sq; clear oq sq; clear o' i3)
      | (go_at_call 9; (with_reducible refine (take_any _ _ cq s wq rfl (by omega) SQ.out).mono ?_); rw [hk]; intro e w4 htk; obtain ⟨o', B4, c4, rfl, i4⟩ := htk; have OC := hide (OQ.out.trans0 o'); have PT := hide (put_good B4 q.length c4 (fOf q) w4 (is_at i4) hqg); rw [hqt] at PT; clear o' i4 OQ SQ)
      | (go_at_call 14; (with_reducible refine PT.out.mono ?_); intro e w5 hp5; obtain ⟨o', g5, c5, rfl, r5⟩ := hp5; have OC := hide (OC.out.trans0 o'); have zt := run_str_any _ _ c5 s w5 rfl (Src.own r5); rw [show (⟨s.toArray⟩ : ByteArray) = bs s from rfl] at zt; clear o' r5 PT)
      | (go_at_call 11; (with_reducible refine (num_any _ _).mono ?_); rintro e v8 ⟨rfl, rfl⟩))
    go_ret
    exact ⟨rfl, OC.out⟩
  by_cases m6 : 600 < m
  · have KN := hide (fun U (o : Only [] w U) => known_any U (he.only o) (by have := o.size; omega))
    have t0 : decide (((bs s).size : Int) ≤ 20000) = true := decide_eq_true (by rw [bs_size]; omega)
    have t1 : decide ((bs s).size ≤ 20000) = true := decide_eq_true (by rw [bs_size]; omega)
    have RD := fun U (o : Only [] w U) => read_walk s (by omega) U (he.only o) (by have := o.size; omega)
    have hrd := hr
    have RD := hide RD
    have HE := hide he
    have na0 : decide ((600 : Int) < (n : Int)) = false := decide_eq_false (by omega)
    have na1 : decide (600 < n) = false := decide_eq_false (by omega)
    have nb0 : decide ((600 : Int) < (m : Int)) = true := decide_eq_true (by omega)
    have nb1 : decide (600 < m) = true := decide_eq_true (by omega)
    have OC := hide (Only.refl [] w)
    clear hA hB hn hm hi hj he hw4
    go_enter Tryz.func5, Tryz.ntmps5
    go_wp2_with (first
      | (go_at_call 13; (with_reducible refine (KN.out _ OC.out).mono ?_); rintro e w1 ⟨rfl, o'⟩; have OC := hide (OC.out.trans0 o'); clear o')
      | (go_at_call 8; (with_reducible refine (RD.out _ OC.out).mono ?_); rintro e w2 ⟨⟨A3, c3, p3, n3, er3, rfl, hq3, i3⟩, o'⟩; rw [hr] at hq3; simp only [Prod.mk.injEq] at hq3; obtain ⟨rfl, rfl, rfl⟩ := hq3; have OC := hide (OC.out.trans0 o'); obtain ⟨cq, wq, hq, oq, sq⟩ := bytes_of w2 s; have OQ := hide (OC.out.trans0 oq); have SQ := hide sq; clear oq sq; clear o' i3)
      | (go_at_call 9; (with_reducible refine (take_any _ _ cq s wq rfl (by omega) SQ.out).mono ?_); rw [hk]; intro e w4 htk; obtain ⟨o', B4, c4, rfl, i4⟩ := htk; have OC := hide (OQ.out.trans0 o'); have PT := hide (put_good B4 q.length c4 (fOf q) w4 (is_at i4) hqg); rw [hqt] at PT; clear o' i4 OQ SQ)
      | (go_at_call 14; (with_reducible refine PT.out.mono ?_); intro e w5 hp5; obtain ⟨o', g5, c5, rfl, r5⟩ := hp5; have OC := hide (OC.out.trans0 o'); have zt := run_str_any _ _ c5 s w5 rfl (Src.own r5); rw [show (⟨s.toArray⟩ : ByteArray) = bs s from rfl] at zt; clear o' r5 PT)
      | (go_at_call 11; (with_reducible refine (num_any _ _).mono ?_); rintro e v8 ⟨rfl, rfl⟩))
    go_ret
    exact ⟨rfl, OC.out⟩
  cases bn : badP n f with
  | true =>
    have ga := bn
    cases bm : badP m g with
    | true =>
      have gb := bm
      have KN := hide (fun U (o : Only [] w U) => known_any U (he.only o) (by have := o.size; omega))
      have t0 : decide (((bs s).size : Int) ≤ 20000) = true := decide_eq_true (by rw [bs_size]; omega)
      have t1 : decide ((bs s).size ≤ 20000) = true := decide_eq_true (by rw [bs_size]; omega)
      have RD := fun U (o : Only [] w U) => read_walk s (by omega) U (he.only o) (by have := o.size; omega)
      have hrd := hr
      have RD := hide RD
      have HE := hide he
      have na0 : decide ((600 : Int) < (n : Int)) = false := decide_eq_false (by omega)
      have na1 : decide (600 < n) = false := decide_eq_false (by omega)
      have nb0 : decide ((600 : Int) < (m : Int)) = false := decide_eq_false (by omega)
      have nb1 : decide (600 < m) = false := decide_eq_false (by omega)
      have LA := hide (fun U (o : Only [] w U) => list_bad A n c f U (hA.only0 o) hn ga)
      have LB := hide (fun U (o : Only [] w U) => list_bad B m c' g U (hB.only0 o) hm gb)
      have OC := hide (Only.refl [] w)
      clear hA hB hn hm hi hj he hw4
      go_enter Tryz.func5, Tryz.ntmps5
      go_wp2_with (first
        | (go_at_call 13; (with_reducible refine (KN.out _ OC.out).mono ?_); rintro e w1 ⟨rfl, o'⟩; have OC := hide (OC.out.trans0 o'); clear o')
        | (go_at_call 8; (with_reducible refine (RD.out _ OC.out).mono ?_); rintro e w2 ⟨⟨A3, c3, p3, n3, er3, rfl, hq3, i3⟩, o'⟩; rw [hr] at hq3; simp only [Prod.mk.injEq] at hq3; obtain ⟨rfl, rfl, rfl⟩ := hq3; have OC := hide (OC.out.trans0 o'); obtain ⟨cq, wq, hq, oq, sq⟩ := bytes_of w2 s; have OQ := hide (OC.out.trans0 oq); have SQ := hide sq; clear oq sq; clear o' i3)
        | (go_at_call 9; (with_reducible refine (take_any _ _ cq s wq rfl (by omega) SQ.out).mono ?_); rw [hk]; intro e w4 htk; obtain ⟨o', B4, c4, rfl, i4⟩ := htk; have OC := hide (OQ.out.trans0 o'); have PT := hide (put_good B4 q.length c4 (fOf q) w4 (is_at i4) hqg); rw [hqt] at PT; clear o' i4 OQ SQ)
        | (go_at_call 14; (with_reducible refine PT.out.mono ?_); intro e w5 hp5; obtain ⟨o', g5, c5, rfl, r5⟩ := hp5; have OC := hide (OC.out.trans0 o'); have zt := run_str_any _ _ c5 s w5 rfl (Src.own r5); rw [show (⟨s.toArray⟩ : ByteArray) = bs s from rfl] at zt; clear o' r5 PT)
        | (go_at_call 6; (with_reducible refine (LA.out _ OC.out).mono ?_); rintro e w6 ⟨rfl, o'⟩; have OC := hide (OC.out.trans0 o'); clear o')
        | (go_at_call 6; (with_reducible refine (LB.out _ OC.out).mono ?_); rintro e w7 ⟨rfl, o'⟩; have OC := hide (OC.out.trans0 o'); clear o')
        | (go_at_call 11; (with_reducible refine (num_any _ _).mono ?_); rintro e v8 ⟨rfl, rfl⟩))
      go_ret
      exact ⟨rfl, OC.out⟩
    | false =>
      have gb := good_of bm hj
      have KN := hide (fun U (o : Only [] w U) => known_any U (he.only o) (by have := o.size; omega))
      have t0 : decide (((bs s).size : Int) ≤ 20000) = true := decide_eq_true (by rw [bs_size]; omega)
      have t1 : decide ((bs s).size ≤ 20000) = true := decide_eq_true (by rw [bs_size]; omega)
      have RD := fun U (o : Only [] w U) => read_walk s (by omega) U (he.only o) (by have := o.size; omega)
      have hrd := hr
      have RD := hide RD
      have HE := hide he
      have na0 : decide ((600 : Int) < (n : Int)) = false := decide_eq_false (by omega)
      have na1 : decide (600 < n) = false := decide_eq_false (by omega)
      have nb0 : decide ((600 : Int) < (m : Int)) = false := decide_eq_false (by omega)
      have nb1 : decide (600 < m) = false := decide_eq_false (by omega)
      have LA := hide (fun U (o : Only [] w U) => list_bad A n c f U (hA.only0 o) hn ga)
      have LB := hide (fun U (o : Only [] w U) => list_good B m c' g U (he.only o) (hB.only0 o) gb)
      have OC := hide (Only.refl [] w)
      clear hA hB hn hm hi hj he hw4
      go_enter Tryz.func5, Tryz.ntmps5
      go_wp2_with (first
        | (go_at_call 13; (with_reducible refine (KN.out _ OC.out).mono ?_); rintro e w1 ⟨rfl, o'⟩; have OC := hide (OC.out.trans0 o'); clear o')
        | (go_at_call 8; (with_reducible refine (RD.out _ OC.out).mono ?_); rintro e w2 ⟨⟨A3, c3, p3, n3, er3, rfl, hq3, i3⟩, o'⟩; rw [hr] at hq3; simp only [Prod.mk.injEq] at hq3; obtain ⟨rfl, rfl, rfl⟩ := hq3; have OC := hide (OC.out.trans0 o'); obtain ⟨cq, wq, hq, oq, sq⟩ := bytes_of w2 s; have OQ := hide (OC.out.trans0 oq); have SQ := hide sq; clear oq sq; clear o' i3)
        | (go_at_call 9; (with_reducible refine (take_any _ _ cq s wq rfl (by omega) SQ.out).mono ?_); rw [hk]; intro e w4 htk; obtain ⟨o', B4, c4, rfl, i4⟩ := htk; have OC := hide (OQ.out.trans0 o'); have PT := hide (put_good B4 q.length c4 (fOf q) w4 (is_at i4) hqg); rw [hqt] at PT; clear o' i4 OQ SQ)
        | (go_at_call 14; (with_reducible refine PT.out.mono ?_); intro e w5 hp5; obtain ⟨o', g5, c5, rfl, r5⟩ := hp5; have OC := hide (OC.out.trans0 o'); have zt := run_str_any _ _ c5 s w5 rfl (Src.own r5); rw [show (⟨s.toArray⟩ : ByteArray) = bs s from rfl] at zt; clear o' r5 PT)
        | (go_at_call 6; (with_reducible refine (LA.out _ OC.out).mono ?_); rintro e w6 ⟨rfl, o'⟩; have OC := hide (OC.out.trans0 o'); clear o')
        | (go_at_call 6; (with_reducible refine (LB.out _ OC.out).mono ?_); rintro e w7 ⟨rfl, o'⟩; have OC := hide (OC.out.trans0 o'); clear o')
        | (go_at_call 11; (with_reducible refine (num_any _ _).mono ?_); rintro e v8 ⟨rfl, rfl⟩))
      go_ret
      exact ⟨rfl, OC.out⟩
  | false =>
    have ga := good_of bn hi
    cases bm : badP m g with
    | true =>
      have gb := bm
      have KN := hide (fun U (o : Only [] w U) => known_any U (he.only o) (by have := o.size; omega))
      have t0 : decide (((bs s).size : Int) ≤ 20000) = true := decide_eq_true (by rw [bs_size]; omega)
      have t1 : decide ((bs s).size ≤ 20000) = true := decide_eq_true (by rw [bs_size]; omega)
      have RD := fun U (o : Only [] w U) => read_walk s (by omega) U (he.only o) (by have := o.size; omega)
      have hrd := hr
      have RD := hide RD
      have HE := hide he
      have na0 : decide ((600 : Int) < (n : Int)) = false := decide_eq_false (by omega)
      have na1 : decide (600 < n) = false := decide_eq_false (by omega)
      have nb0 : decide ((600 : Int) < (m : Int)) = false := decide_eq_false (by omega)
      have nb1 : decide (600 < m) = false := decide_eq_false (by omega)
      have LA := hide (fun U (o : Only [] w U) => list_good A n c f U (he.only o) (hA.only0 o) ga)
      have LB := hide (fun U (o : Only [] w U) => list_bad B m c' g U (hB.only0 o) hm gb)
      have OC := hide (Only.refl [] w)
      clear hA hB hn hm hi hj he hw4
      go_enter Tryz.func5, Tryz.ntmps5
      go_wp2_with (first
        | (go_at_call 13; (with_reducible refine (KN.out _ OC.out).mono ?_); rintro e w1 ⟨rfl, o'⟩; have OC := hide (OC.out.trans0 o'); clear o')
        | (go_at_call 8; (with_reducible refine (RD.out _ OC.out).mono ?_); rintro e w2 ⟨⟨A3, c3, p3, n3, er3, rfl, hq3, i3⟩, o'⟩; rw [hr] at hq3; simp only [Prod.mk.injEq] at hq3; obtain ⟨rfl, rfl, rfl⟩ := hq3; have OC := hide (OC.out.trans0 o'); obtain ⟨cq, wq, hq, oq, sq⟩ := bytes_of w2 s; have OQ := hide (OC.out.trans0 oq); have SQ := hide sq; clear oq sq; clear o' i3)
        | (go_at_call 9; (with_reducible refine (take_any _ _ cq s wq rfl (by omega) SQ.out).mono ?_); rw [hk]; intro e w4 htk; obtain ⟨o', B4, c4, rfl, i4⟩ := htk; have OC := hide (OQ.out.trans0 o'); have PT := hide (put_good B4 q.length c4 (fOf q) w4 (is_at i4) hqg); rw [hqt] at PT; clear o' i4 OQ SQ)
        | (go_at_call 14; (with_reducible refine PT.out.mono ?_); intro e w5 hp5; obtain ⟨o', g5, c5, rfl, r5⟩ := hp5; have OC := hide (OC.out.trans0 o'); have zt := run_str_any _ _ c5 s w5 rfl (Src.own r5); rw [show (⟨s.toArray⟩ : ByteArray) = bs s from rfl] at zt; clear o' r5 PT)
        | (go_at_call 6; (with_reducible refine (LA.out _ OC.out).mono ?_); rintro e w6 ⟨rfl, o'⟩; have OC := hide (OC.out.trans0 o'); clear o')
        | (go_at_call 6; (with_reducible refine (LB.out _ OC.out).mono ?_); rintro e w7 ⟨rfl, o'⟩; have OC := hide (OC.out.trans0 o'); clear o')
        | (go_at_call 11; (with_reducible refine (num_any _ _).mono ?_); rintro e v8 ⟨rfl, rfl⟩))
      go_ret
      exact ⟨rfl, OC.out⟩
    | false =>
      have gb := good_of bm hj
      cases hs : sameB n f m g with
      | true =>
        have KN := hide (fun U (o : Only [] w U) => known_any U (he.only o) (by have := o.size; omega))
        have t0 : decide (((bs s).size : Int) ≤ 20000) = true := decide_eq_true (by rw [bs_size]; omega)
        have t1 : decide ((bs s).size ≤ 20000) = true := decide_eq_true (by rw [bs_size]; omega)
        have RD := fun U (o : Only [] w U) => read_walk s (by omega) U (he.only o) (by have := o.size; omega)
        have hrd := hr
        have RD := hide RD
        have HE := hide he
        have na0 : decide ((600 : Int) < (n : Int)) = false := decide_eq_false (by omega)
        have na1 : decide (600 < n) = false := decide_eq_false (by omega)
        have nb0 : decide ((600 : Int) < (m : Int)) = false := decide_eq_false (by omega)
        have nb1 : decide (600 < m) = false := decide_eq_false (by omega)
        have LA := hide (fun U (o : Only [] w U) => list_good A n c f U (he.only o) (hA.only0 o) ga)
        have LB := hide (fun U (o : Only [] w U) => list_good B m c' g U (he.only o) (hB.only0 o) gb)
        have PA := hide (fun U (o : Only [] w U) => put_good A n c f U (hA.only0 o) ga)
        have PB := hide (fun U (o : Only [] w U) => put_good B m c' g U (hB.only0 o) gb)
        have SR := fun U (o : Only [] w U) => rsame_any A n c f B m c' g U (hA.only0 o) (hB.only0 o) hn
        have SC := fun U (o : Only [] w U) => same_any A n c f B m c' g U (hA.only0 o) (hB.only0 o) hn
        have hll := txtL_len (pOf n f) ga.all
        rw [← listB_txt, pOf_len] at hll
        have RA := fun U (o : Only [] w U) => read_walk (listB f n) (by have := ga.len; omega) U (he.only o) (by have := o.size; omega)
        rw [readR_back ga] at RA
        have hst := (bs_eq (listB f n) (listB g m)).trans (list_inj ga gb)
        have hpt' := (bs_eq (putB n f) (putB m g)).trans (put_inj ga gb)
        rw [hs] at SR SC hst hpt'
        have HAA := hide hA
        obtain ⟨ta, hta⟩ : ∃ x, bs (listB f n) = x := ⟨_, rfl⟩
        obtain ⟨tb, htb⟩ : ∃ x, bs (listB g m) = x := ⟨_, rfl⟩
        obtain ⟨pa, hpa⟩ : ∃ x, putB n f = x := ⟨_, rfl⟩
        obtain ⟨pb, hpb⟩ : ∃ x, putB m g = x := ⟨_, rfl⟩
        rw [hta] at LA RA hst
        rw [htb] at LB hst
        rw [hpa] at PA hpt'
        rw [hpb] at PB hpt'
        obtain ⟨xa, hxa⟩ : ∃ x, bs pa = x := ⟨_, rfl⟩
        obtain ⟨xb, hxb⟩ : ∃ x, bs pb = x := ⟨_, rfl⟩
        rw [hxa, hxb] at hpt'
        have HXA := hide hxa
        have HXB := hide hxb
        have RA := hide RA
        have SR := hide SR
        have SC := hide SC
        clear hta htb hpa hpb hxa hxb hll
        have hnn : n ≤ 9223372036854775807 := by unfold maxLen at hn; omega
        have OC := hide (Only.refl [] w)
        clear hA hB hn hm hi hj he hw4
        go_enter Tryz.func5, Tryz.ntmps5
        go_wp2_with (first
          | (go_at_call 13; (with_reducible refine (KN.out _ OC.out).mono ?_); rintro e w1 ⟨rfl, o'⟩; have OC := hide (OC.out.trans0 o'); clear o')
          | (go_at_call 8; (with_reducible refine (RD.out _ OC.out).mono ?_); rintro e w2 ⟨⟨A3, c3, p3, n3, er3, rfl, hq3, i3⟩, o'⟩; rw [hr] at hq3; simp only [Prod.mk.injEq] at hq3; obtain ⟨rfl, rfl, rfl⟩ := hq3; have OC := hide (OC.out.trans0 o'); obtain ⟨cq, wq, hq, oq, sq⟩ := bytes_of w2 s; have OQ := hide (OC.out.trans0 oq); have SQ := hide sq; clear oq sq; clear o' i3)
          | (go_at_call 9; (with_reducible refine (take_any _ _ cq s wq rfl (by omega) SQ.out).mono ?_); rw [hk]; intro e w4 htk; obtain ⟨o', B4, c4, rfl, i4⟩ := htk; have OC := hide (OQ.out.trans0 o'); have PT := hide (put_good B4 q.length c4 (fOf q) w4 (is_at i4) hqg); rw [hqt] at PT; clear o' i4 OQ SQ)
          | (go_at_call 14; (with_reducible refine PT.out.mono ?_); intro e w5 hp5; obtain ⟨o', g5, c5, rfl, r5⟩ := hp5; have OC := hide (OC.out.trans0 o'); have zt := run_str_any _ _ c5 s w5 rfl (Src.own r5); rw [show (⟨s.toArray⟩ : ByteArray) = bs s from rfl] at zt; clear o' r5 PT)
          | (go_at_call 6; (with_reducible refine (LA.out _ OC.out).mono ?_); rintro e w6 ⟨rfl, o'⟩; have OC := hide (OC.out.trans0 o'); clear o')
          | (go_at_call 6; (with_reducible refine (LB.out _ OC.out).mono ?_); rintro e w7 ⟨rfl, o'⟩; have OC := hide (OC.out.trans0 o'); clear o')
          | (go_at_call 14; (with_reducible refine (PA.out _ OC.out).mono ?_); intro e w9 hp9; obtain ⟨o', g9, c9, rfl, r9⟩ := hp9; have OC := hide (OC.out.trans0 o'); have R9 := hide r9; have O9 := hide (Only.refl [] w9); clear o' r9)
          | (go_at_call 14; (with_reducible refine (PB.out _ OC.out).mono ?_); intro e wa hpa; obtain ⟨o', ga', ca, rfl, ra⟩ := hpa; have OC := hide (OC.out.trans0 o'); have Ra := hide ra; have Oa := hide (Only.refl [] wa); have O9 := hide (O9.out.trans0 o'); clear o' ra)
          | (go_at_call 17; (with_reducible refine (SR.out _ OC.out).mono ?_); rintro e wb ⟨rfl, o'⟩; have OC := hide (OC.out.trans0 o'); have O9 := hide (O9.out.trans0 o'); have Oa := hide (Oa.out.trans0 o'); clear o')
          | (go_at_call 8; (with_reducible refine (RA.out _ OC.out).mono ?_); rintro e wc ⟨⟨A5, c5', p5, n5, er5, rfl, hq5, i5⟩, o'⟩; simp only [Prod.mk.injEq] at hq5; obtain ⟨rfl, rfl, rfl⟩ := hq5; rw [pOf_len]; have OC := hide (OC.out.trans0 o'); have O9 := hide (O9.out.trans0 o'); have Oa := hide (Oa.out.trans0 o'); have I5 := hide i5; clear o' i5)
          | (go_at_call 20; (with_reducible refine (SC.out _ OC.out).mono ?_); rintro e wd ⟨rfl, o'⟩; have OC := hide (OC.out.trans0 o'); have za := run_str_any _ _ c9 pa wd rfl (Src.own (own_only' R9.out (O9.out.trans0 o') (by simp))); have zb := run_str_any _ _ ca pb wd rfl (Src.own (own_only' Ra.out (Oa.out.trans0 o') (by simp))); rw [show (⟨pa.toArray⟩ : ByteArray) = xa from HXA.out] at za; rw [show (⟨pb.toArray⟩ : ByteArray) = xb from HXB.out] at zb; have SZ := same_any A5 n c5' (fOf (pOf n f)) A n c f wd (by have := is_at (I5.out.only0 o'); rw [pOf_len] at this; exact this) (HAA.out.only0 OC.out) (by unfold maxLen; omega); rw [sameB_self n _ f (fun k hk => fOf_pOf hk)] at SZ; have SZ := hide SZ; clear o')
          | (go_at_call 20; (with_reducible refine SZ.out.mono ?_); rintro e we ⟨rfl, o'⟩; have OC := hide (OC.out.trans0 o'); clear o')
          | (go_at_call 11; (with_reducible refine (num_any _ _).mono ?_); rintro e v8 ⟨rfl, rfl⟩))
        go_ret
        exact ⟨rfl, OC.out⟩
      | false =>
        have KN := hide (fun U (o : Only [] w U) => known_any U (he.only o) (by have := o.size; omega))
        have t0 : decide (((bs s).size : Int) ≤ 20000) = true := decide_eq_true (by rw [bs_size]; omega)
        have t1 : decide ((bs s).size ≤ 20000) = true := decide_eq_true (by rw [bs_size]; omega)
        have RD := fun U (o : Only [] w U) => read_walk s (by omega) U (he.only o) (by have := o.size; omega)
        have hrd := hr
        have RD := hide RD
        have HE := hide he
        have na0 : decide ((600 : Int) < (n : Int)) = false := decide_eq_false (by omega)
        have na1 : decide (600 < n) = false := decide_eq_false (by omega)
        have nb0 : decide ((600 : Int) < (m : Int)) = false := decide_eq_false (by omega)
        have nb1 : decide (600 < m) = false := decide_eq_false (by omega)
        have LA := hide (fun U (o : Only [] w U) => list_good A n c f U (he.only o) (hA.only0 o) ga)
        have LB := hide (fun U (o : Only [] w U) => list_good B m c' g U (he.only o) (hB.only0 o) gb)
        have PA := hide (fun U (o : Only [] w U) => put_good A n c f U (hA.only0 o) ga)
        have PB := hide (fun U (o : Only [] w U) => put_good B m c' g U (hB.only0 o) gb)
        have SR := fun U (o : Only [] w U) => rsame_any A n c f B m c' g U (hA.only0 o) (hB.only0 o) hn
        have SC := fun U (o : Only [] w U) => same_any A n c f B m c' g U (hA.only0 o) (hB.only0 o) hn
        have hll := txtL_len (pOf n f) ga.all
        rw [← listB_txt, pOf_len] at hll
        have RA := fun U (o : Only [] w U) => read_walk (listB f n) (by have := ga.len; omega) U (he.only o) (by have := o.size; omega)
        rw [readR_back ga] at RA
        have hst := (bs_eq (listB f n) (listB g m)).trans (list_inj ga gb)
        have hpt' := (bs_eq (putB n f) (putB m g)).trans (put_inj ga gb)
        rw [hs] at SR SC hst hpt'
        have HAA := hide hA
        obtain ⟨ta, hta⟩ : ∃ x, bs (listB f n) = x := ⟨_, rfl⟩
        obtain ⟨tb, htb⟩ : ∃ x, bs (listB g m) = x := ⟨_, rfl⟩
        obtain ⟨pa, hpa⟩ : ∃ x, putB n f = x := ⟨_, rfl⟩
        obtain ⟨pb, hpb⟩ : ∃ x, putB m g = x := ⟨_, rfl⟩
        rw [hta] at LA RA hst
        rw [htb] at LB hst
        rw [hpa] at PA hpt'
        rw [hpb] at PB hpt'
        obtain ⟨xa, hxa⟩ : ∃ x, bs pa = x := ⟨_, rfl⟩
        obtain ⟨xb, hxb⟩ : ∃ x, bs pb = x := ⟨_, rfl⟩
        rw [hxa, hxb] at hpt'
        have HXA := hide hxa
        have HXB := hide hxb
        have RA := hide RA
        have SR := hide SR
        have SC := hide SC
        clear hta htb hpa hpb hxa hxb hll
        have hnn : n ≤ 9223372036854775807 := by unfold maxLen at hn; omega
        have OC := hide (Only.refl [] w)
        clear hA hB hn hm hi hj he hw4
        go_enter Tryz.func5, Tryz.ntmps5
        go_wp2_with (first
          | (go_at_call 13; (with_reducible refine (KN.out _ OC.out).mono ?_); rintro e w1 ⟨rfl, o'⟩; have OC := hide (OC.out.trans0 o'); clear o')
          | (go_at_call 8; (with_reducible refine (RD.out _ OC.out).mono ?_); rintro e w2 ⟨⟨A3, c3, p3, n3, er3, rfl, hq3, i3⟩, o'⟩; rw [hr] at hq3; simp only [Prod.mk.injEq] at hq3; obtain ⟨rfl, rfl, rfl⟩ := hq3; have OC := hide (OC.out.trans0 o'); obtain ⟨cq, wq, hq, oq, sq⟩ := bytes_of w2 s; have OQ := hide (OC.out.trans0 oq); have SQ := hide sq; clear oq sq; clear o' i3)
          | (go_at_call 9; (with_reducible refine (take_any _ _ cq s wq rfl (by omega) SQ.out).mono ?_); rw [hk]; intro e w4 htk; obtain ⟨o', B4, c4, rfl, i4⟩ := htk; have OC := hide (OQ.out.trans0 o'); have PT := hide (put_good B4 q.length c4 (fOf q) w4 (is_at i4) hqg); rw [hqt] at PT; clear o' i4 OQ SQ)
          | (go_at_call 14; (with_reducible refine PT.out.mono ?_); intro e w5 hp5; obtain ⟨o', g5, c5, rfl, r5⟩ := hp5; have OC := hide (OC.out.trans0 o'); have zt := run_str_any _ _ c5 s w5 rfl (Src.own r5); rw [show (⟨s.toArray⟩ : ByteArray) = bs s from rfl] at zt; clear o' r5 PT)
          | (go_at_call 6; (with_reducible refine (LA.out _ OC.out).mono ?_); rintro e w6 ⟨rfl, o'⟩; have OC := hide (OC.out.trans0 o'); clear o')
          | (go_at_call 6; (with_reducible refine (LB.out _ OC.out).mono ?_); rintro e w7 ⟨rfl, o'⟩; have OC := hide (OC.out.trans0 o'); clear o')
          | (go_at_call 14; (with_reducible refine (PA.out _ OC.out).mono ?_); intro e w9 hp9; obtain ⟨o', g9, c9, rfl, r9⟩ := hp9; have OC := hide (OC.out.trans0 o'); have R9 := hide r9; have O9 := hide (Only.refl [] w9); clear o' r9)
          | (go_at_call 14; (with_reducible refine (PB.out _ OC.out).mono ?_); intro e wa hpa; obtain ⟨o', ga', ca, rfl, ra⟩ := hpa; have OC := hide (OC.out.trans0 o'); have Ra := hide ra; have Oa := hide (Only.refl [] wa); have O9 := hide (O9.out.trans0 o'); clear o' ra)
          | (go_at_call 17; (with_reducible refine (SR.out _ OC.out).mono ?_); rintro e wb ⟨rfl, o'⟩; have OC := hide (OC.out.trans0 o'); have O9 := hide (O9.out.trans0 o'); have Oa := hide (Oa.out.trans0 o'); clear o')
          | (go_at_call 8; (with_reducible refine (RA.out _ OC.out).mono ?_); rintro e wc ⟨⟨A5, c5', p5, n5, er5, rfl, hq5, i5⟩, o'⟩; simp only [Prod.mk.injEq] at hq5; obtain ⟨rfl, rfl, rfl⟩ := hq5; rw [pOf_len]; have OC := hide (OC.out.trans0 o'); have O9 := hide (O9.out.trans0 o'); have Oa := hide (Oa.out.trans0 o'); have I5 := hide i5; clear o' i5)
          | (go_at_call 20; (with_reducible refine (SC.out _ OC.out).mono ?_); rintro e wd ⟨rfl, o'⟩; have OC := hide (OC.out.trans0 o'); have za := run_str_any _ _ c9 pa wd rfl (Src.own (own_only' R9.out (O9.out.trans0 o') (by simp))); have zb := run_str_any _ _ ca pb wd rfl (Src.own (own_only' Ra.out (Oa.out.trans0 o') (by simp))); rw [show (⟨pa.toArray⟩ : ByteArray) = xa from HXA.out] at za; rw [show (⟨pb.toArray⟩ : ByteArray) = xb from HXB.out] at zb; have SZ := same_any A5 n c5' (fOf (pOf n f)) A n c f wd (by have := is_at (I5.out.only0 o'); rw [pOf_len] at this; exact this) (HAA.out.only0 OC.out) (by unfold maxLen; omega); rw [sameB_self n _ f (fun k hk => fOf_pOf hk)] at SZ; have SZ := hide SZ; clear o')
          | (go_at_call 20; (with_reducible refine SZ.out.mono ?_); rintro e we ⟨rfl, o'⟩; have OC := hide (OC.out.trans0 o'); clear o')
          | (go_at_call 11; (with_reducible refine (num_any _ _).mono ?_); rintro e v8 ⟨rfl, rfl⟩))
        go_ret
        exact ⟨rfl, OC.out⟩
end Go.Proofs.YtmaljajdmgkakaaGreatDoor
