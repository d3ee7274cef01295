/- Signals, the document's answer: the walk of Send. Condition: it lies. -/
import Derived.Test.YtnmlcijkggfhmaaSd2
namespace Go.Proofs.Ytnmlcijkggfhmaa
open Go.RowKit
set_option linter.unusedVariables false
set_option linter.all false
set_option maxRecDepth 20000
attribute [local go_sem ↓] app_hide

theorem DC.setL {cs : Array Value} {T S : Nat} {M : Nat → Nat} {A A' : Option Addr} {n c n' c' : Nat} (h : DC cs T S M A n c) (hc : n' ≤ c') : DC (cs.setIfInBounds 18 (.slice A' n' c')) T S M A' n' c' := by
  have hz := h.size
  exact ⟨by simp [hz], (set_ne (by omega)).trans h.t, (set_ne (by omega)).trans h.s, fun i hi => (set_ne (by omega)).trans (h.m i hi), set_eq (by omega), hc⟩
theorem DS.setL {w w3 : World} {d T S : Nat} {L L' : List Snt} {M : Nat → Nat} (h : DS w d T S L M) (o : Only [] w w3) {A : Option Addr} {n c base : Nat} (hn : L'.length = n) (hr : w3.ownsRow base 84 3 (.slice A n c) n (SV L')) (hi : SInv T S L') (hl : L'.length ≤ 1000) :
    DS (w3.setCell ⟨d, 18, none⟩ (.slice A n c)) d T S L' M := by
  obtain ⟨cs, A0, c0, hb, hC, _⟩ := h.cells
  have hb3 := hb.only o (by simp)
  have o2 : Only [d] w3 (w3.setCell ⟨d, 18, none⟩ (.slice A n c)) := (Only.refl [d] w3).setCell (p := ⟨d, 18, none⟩) (.inl (by simp)) _
  subst hn
  exact ⟨⟨_, A, c, hb3.set_ 18 _, hC.setL (own_cap hr).1, (RowS.own rfl hr).only o2 (NoS.one hb3 (by decide))⟩, hi, hl, h.t0, h.t1, h.s1, h.mlt⟩
theorem rsend_nil (t n v : Int) (w : World) : Calls Try.prog 27 #[.pointer none, .int .i64 t, .int .i64 n, .int .i64 v] w fun e w' => e = .returned (.int .i64 1) ∧ w' = w := by
  go_enter Try.func27, Try.ntmps27
  go_wp2_with fail
  go_ret
  exact ⟨rfl, rfl⟩
section
variable {w : World} {d T S : Nat} {L : List Snt} {M : Nat → Nat}
theorem rsend_arg (h : DS w d T S L M) (t n v : Int) (ht : ¬ inT T t ∨ n < 1 ∨ 31 < n) : Calls Try.prog 27 #[ptr d, .int .i64 t, .int .i64 n, .int .i64 v] w fun e w' => e = .returned (.int .i64 2) ∧ w' = w := by
  have IN := in_ds h t
  clear h
  by_cases c : inT T t
  · rw [decide_eq_true c] at IN
    have IN := hide IN
    by_cases c1 : n < 1
    · have d1 : decide (n < 1) = true := decide_eq_true c1
      clear ht c1 c
      unfold ptr at IN ⊢
      go_enter Try.func27, Try.ntmps27
      go_wp2_with (go_at_call 41; refine IN.out.mono ?_; rintro e w' ⟨rfl, hw⟩; obtain rfl := hw.symm; clear hw)
      go_ret
      exact ⟨rfl, rfl⟩
    · have d1 : decide (n < 1) = false := decide_eq_false c1
      have d2 : decide (31 < n) = true := decide_eq_true (by rcases ht with h | h | h; (exact absurd c h); (exact absurd h c1); exact h)
      clear ht c1 c
      unfold ptr at IN ⊢
      go_enter Try.func27, Try.ntmps27
      go_wp2_with (go_at_call 41; refine IN.out.mono ?_; rintro e w' ⟨rfl, hw⟩; obtain rfl := hw.symm; clear hw)
      go_ret
      exact ⟨rfl, rfl⟩
  · rw [decide_eq_false c] at IN
    have IN := hide IN
    clear ht c
    unfold ptr at IN ⊢
    go_enter Try.func27, Try.ntmps27
    go_wp2_with (go_at_call 41; refine IN.out.mono ?_; rintro e w' ⟨rfl, hw⟩; obtain rfl := hw.symm; clear hw)
    go_ret
    exact ⟨rfl, rfl⟩
theorem and_pow (p n : Nat) (hp : p < 4294967296) (hn : n < 32) : bits .and .u32 (p : Int) ((2 ^ n : Nat) : Int) = if p.testBit n then ((2 ^ n : Nat) : Int) else 0 := by
  have h1 : 2 ^ n < 4294967296 := Nat.pow_lt_pow_right (show 1 < 2 by decide) hn
  rw [u32_and_nat p (2 ^ n) hp h1]
  have e : p &&& 2 ^ n = if p.testBit n then 2 ^ n else 0 := by
    apply Nat.eq_of_testBit_eq
    intro i
    rw [Nat.testBit_and, Nat.testBit_two_pow]
    by_cases hb : p.testBit n
    · rw [if_pos hb, Nat.testBit_two_pow]
      by_cases e : n = i
      · subst e; simp [hb]
      · simp [e]
    · rw [if_neg hb]
      by_cases e : n = i
      · subst e; simp [hb]
      · simp [e]
  rw [e]
  split <;> rfl
theorem pow_ne (n : Nat) : (((2 ^ n : Nat) : Int) == 0) = false := by
  have h : (2 ^ n : Nat) ≠ 0 := Nat.pos_iff_ne_zero.1 (Nat.pow_pos (by decide))
  rw [beq_eq_false_iff_ne]
  exact Int.ofNat_ne_zero.2 h
theorem pow_ne' (n : Nat) : (((2 ^ n : Nat) : Int) != 0) = true := by
  rw [bne, pow_ne]; rfl
theorem rsend_full (h : DS w d T S L M) (t n v : Int) (ht : inT T t) (hn : 16 ≤ n) (hn2 : n ≤ 31) (hu : S ≤ usedOf L) : Calls Try.prog 27 #[ptr d, .int .i64 t, .int .i64 n, .int .i64 v] w fun e w' => e = .returned (.int .i64 5) ∧ Only [] w w' := by
  have IN := in_ds h t
  rw [decide_eq_true ht] at IN
  have IN := hide IN
  have US := hide (fun k : Nat => rused_any (h.only0 ((Only.refl [] w).drewN k)))
  obtain ⟨A, c, _, k1, _⟩ := h.at
  obtain ⟨u, hu'⟩ : ∃ u, usedOf L = u := ⟨_, rfl⟩
  rw [hu'] at US hu
  have d1 : decide (n < 1) = false := decide_eq_false (by omega)
  have d2 : decide (31 < n) = false := decide_eq_false (by omega)
  have d3 : decide (n < 16) = false := decide_eq_false (by omega)
  have d4 : decide ((S : Int) ≤ (u : Int)) = true := decide_eq_true (by omega)
  have d5 : decide (S ≤ u) = true := decide_eq_true hu
  clear hu' h ht
  unfold ptr at IN US ⊢
  go_enter Try.func27, Try.ntmps27
  go_wp2_with (go_at_call 41; refine IN.out.mono ?_; rintro e w' ⟨rfl, hw⟩; obtain rfl := hw.symm; clear hw)
  go_quiet ((go_at_call 33; exact Calls.quiet_of_same (US.out _)))
  go_wp2_with fail
  go_ret
  exact ⟨rfl, (Only.refl [] w).drewN _⟩
theorem rsend_has (h : DS w d T S L M) (t n : Nat) (v : Int) (ht : t < T) (h1 : 1 ≤ n) (hn : n < 16) (hh : hasB L t n = true) : Calls Try.prog 27 #[ptr d, .int .i64 t, .int .i64 n, .int .i64 v] w fun e w' => e = .returned (.int .i64 0) ∧ w' = w := by
  have IN := in_ds h t
  rw [decide_eq_true (show inT T t from ⟨by omega, by omega⟩)] at IN
  have IN := hide IN
  have PD := rpending_any h t
  have hpe : pendI L T t = pendOf L t := by unfold pendI; rw [if_pos ⟨by omega, by omega⟩]; rfl
  rw [hpe] at PD
  have hp : pendOf L t < 4294967296 := pend_lt L t h.inv.n2
  have z1 := and_pow (pendOf L t) n hp (by omega)
  rw [pend_bit, hh, if_pos rfl] at z1
  have z2 := pow_ne' n
  have z3 := pow_ne n
  have BT := hide (bit_any n (by omega) w)
  obtain ⟨p, hp'⟩ : ∃ p, pendOf L t = p := ⟨_, rfl⟩
  obtain ⟨b, hb⟩ : ∃ b, 2 ^ n = b := ⟨_, rfl⟩
  rw [hp'] at PD z1
  rw [hb] at z1 z2 z3 BT
  have PD := hide PD
  have d1 : decide ((n : Int) < 1) = false := decide_eq_false (by omega)
  have d2 : decide (31 < (n : Int)) = false := decide_eq_false (by omega)
  have d3 : decide ((n : Int) < 16) = true := decide_eq_true (by omega)
  clear hp' hb hpe h hh hp
  unfold ptr at IN PD ⊢
  go_enter Try.func27, Try.ntmps27
  go_wp2_with (first
    | (go_at_call 41; refine IN.out.mono ?_; rintro e w' ⟨rfl, hw⟩; obtain rfl := hw.symm; clear hw)
    | (go_at_call 35; refine PD.out.mono ?_; rintro e w' ⟨rfl, hw⟩; obtain rfl := hw.symm; clear hw)
    | (go_at_call 42; refine BT.out.mono ?_; rintro e w' ⟨rfl, hw⟩; obtain rfl := hw.symm; clear hw))
  go_ret
  exact ⟨rfl, rfl⟩
set_option maxHeartbeats 2000000 in
theorem rsend_high (h : DS w d T S L M) (t n : Nat) (v : Int) (ht : t < T) (h1 : 1 ≤ n) (hn : 16 ≤ n) (hn2 : n < 32) (hu : usedOf L < S) (hl : L.length < 1000) : Calls Try.prog 27 #[ptr d, .int .i64 t, .int .i64 n, .int .i64 v] w fun e w' => e = .returned (.int .i64 0) ∧ DS w' d T S (L ++ [⟨t, n, v⟩]) M ∧ Only [d] w w' := by
  have IN := in_ds h t
  rw [decide_eq_true (show inT T t from ⟨by omega, by omega⟩)] at IN
  have IN := hide IN
  have HI := hide (h.inv.sendHigh ht hn hn2 hu : SInv T S (L ++ [⟨t, n, v⟩]))
  have H := hide h
  obtain ⟨cs, A, c, hb, hC, hr⟩ := h.cells
  have k18 := (hb.cell 18).trans hC.l
  have f18 := hb.frozen 18
  have k1 := (hb.cell 1).trans hC.s
  have hdW := hb.lt
  have HS := hide hr.src
  obtain ⟨m, hm⟩ : ∃ m, L.length = m := ⟨_, rfl⟩
  rw [hm] at k18 hl
  have HM := hide hm
  have d1 : decide ((n : Int) < 1) = false := decide_eq_false (by omega)
  have d2 : decide (31 < (n : Int)) = false := decide_eq_false (by omega)
  have US := hide (fun k : Nat => rused_any (h.only0 ((Only.refl [] w).drewN k)))
  obtain ⟨u, hu'⟩ : ∃ u, usedOf L = u := ⟨_, rfl⟩
  rw [hu'] at US hu
  have d3 : decide ((n : Int) < 16) = false := decide_eq_false (by omega)
  have d4 : decide ((S : Int) ≤ (u : Int)) = false := decide_eq_false (by omega)
  have d5 : decide (S ≤ u) = false := decide_eq_false (by omega)
  clear hu' h hm hr hC hb
  unfold ptr at IN US ⊢
  go_enter Try.func27, Try.ntmps27
  go_wp2_with (go_at_call 41; refine IN.out.mono ?_; rintro e w' ⟨rfl, hw⟩; obtain rfl := hw.symm; clear hw)
  go_quiet ((go_at_call 33; exact Calls.quiet_of_same (US.out _)))
  have oW : Only [] w (w.drewN nq) := (Only.refl [] w).drewN nq
  have k18 : (w.drewN nq).cell? ⟨d, 18, none⟩ = some (.slice A m c) := k18
  have f18 : (w.drewN nq).frozen? ⟨d, 18, none⟩ = false := f18
  have hdW : d < (w.drewN nq).heap.size := hdW
  revert oW k18 f18 hdW
  generalize w.drewN nq = W
  intro oW k18 f18 hdW
  have HSW := HS.out.only oW
  obtain ⟨A2, c2, w2, e1, r1, o1⟩ := app_snt W W.heap.size none 0 [] A c L 0 m rfl HM.out (World.ownsRow_nil ..) HSW (by simp; rw [HM.out]; omega) (Nat.le_refl _)
  rw [Nat.zero_add, List.nil_append] at r1
  rw [Nat.zero_add] at e1
  obtain ⟨A3, c3, w3, e2, r2, o2⟩ := app_snt (w2.alloc (.cells #[.int .i64 (t : Int), .int .i64 (n : Int), .int .i64 v] 84)) W.heap.size A2 c2 L (some ⟨w2.heap.size, 0, none⟩) 1 [⟨t, n, v⟩] m 1 HM.out rfl (own_only' r1 ((Only.refl [] w2).alloc _) (by simp)) (one_src w2 ⟨t, n, v⟩) (by simp; rw [HM.out]; omega) (by have : W.heap.size ≤ w2.heap.size := o1.size; simp; omega)
  have oA : Only [] W w3 := ((show Only [] W w2 from o1).alloc (.cells #[.int .i64 (t : Int), .int .i64 (n : Int), .int .i64 v] 84)).trans o2 (fun k hk => .inr (own_ge r1 k hk).1)
  have m3 := oA.keep0 k18
  have n3 := (oA.frozen (p := ⟨d, 18, none⟩) hdW (by simp)).trans f18
  have LN := hide (show (L ++ [(⟨t, n, v⟩ : Snt)]).length = m + 1 from by simp [HM.out])
  have G3 := hide (H.out.setL (oW.trans0 oA) LN.out r2 HI.out (by rw [LN.out]; omega))
  have P3 := hide (show Only [d] w _ from (((oW.trans0 oA).mono (by simp)).setCell (p := ⟨d, 18, none⟩) (.inl (by simp)) (.slice A3 (m + 1) c3)))
  clear r1 r2 o1 o2 oA oW
  go_wp2_with fail
  go_ret
  exact ⟨rfl, G3.out, P3.out⟩
set_option maxHeartbeats 2000000 in
theorem rsend_low (h : DS w d T S L M) (t n : Nat) (v : Int) (ht : t < T) (h1 : 1 ≤ n) (hn : n < 16) (hh : hasB L t n = false) (hl : L.length < 1000) : Calls Try.prog 27 #[ptr d, .int .i64 t, .int .i64 n, .int .i64 v] w fun e w' => e = .returned (.int .i64 0) ∧ DS w' d T S (L ++ [⟨t, n, 0⟩]) M ∧ Only [d] w w' := by
  have IN := in_ds h t
  rw [decide_eq_true (show inT T t from ⟨by omega, by omega⟩)] at IN
  have IN := hide IN
  have HI := hide (h.inv.sendLow ht h1 hn hh : SInv T S (L ++ [⟨t, n, 0⟩]))
  have H := hide h
  obtain ⟨cs, A, c, hb, hC, hr⟩ := h.cells
  have k18 := (hb.cell 18).trans hC.l
  have f18 := hb.frozen 18
  have k1 := (hb.cell 1).trans hC.s
  have hdW := hb.lt
  have HS := hide hr.src
  obtain ⟨m, hm⟩ : ∃ m, L.length = m := ⟨_, rfl⟩
  rw [hm] at k18 hl
  have HM := hide hm
  have d1 : decide ((n : Int) < 1) = false := decide_eq_false (by omega)
  have d2 : decide (31 < (n : Int)) = false := decide_eq_false (by omega)
  have PD := rpending_any h t
  have hpe : pendI L T t = pendOf L t := by unfold pendI; rw [if_pos ⟨by omega, by omega⟩]; rfl
  rw [hpe] at PD
  have hp : pendOf L t < 4294967296 := pend_lt L t h.inv.n2
  have z1 := and_pow (pendOf L t) n hp (by omega)
  rw [pend_bit, hh, if_neg (by decide)] at z1
  have BT := hide (bit_any n (by omega) w)
  obtain ⟨p, hp'⟩ : ∃ p, pendOf L t = p := ⟨_, rfl⟩
  obtain ⟨b, hb'⟩ : ∃ b, 2 ^ n = b := ⟨_, rfl⟩
  rw [hp'] at PD z1
  rw [hb'] at z1 BT
  have PD := hide PD
  have d3 : decide ((n : Int) < 16) = true := decide_eq_true (by omega)
  have oW : Only [] w w := Only.refl [] w
  have HSW := HS.out.only oW
  obtain ⟨A2, c2, w2, e1, r1, o1⟩ := app_snt w w.heap.size none 0 [] A c L 0 m rfl HM.out (World.ownsRow_nil ..) HSW (by simp; rw [HM.out]; omega) (Nat.le_refl _)
  rw [Nat.zero_add, List.nil_append] at r1
  rw [Nat.zero_add] at e1
  obtain ⟨A3, c3, w3, e2, r2, o2⟩ := app_snt (w2.alloc (.cells #[.int .i64 (t : Int), .int .i64 (n : Int), .int .i64 0] 84)) w.heap.size A2 c2 L (some ⟨w2.heap.size, 0, none⟩) 1 [⟨t, n, 0⟩] m 1 HM.out rfl (own_only' r1 ((Only.refl [] w2).alloc _) (by simp)) (one_src w2 ⟨t, n, 0⟩) (by simp; rw [HM.out]; omega) (by have : w.heap.size ≤ w2.heap.size := o1.size; simp; omega)
  have oA : Only [] w w3 := ((show Only [] w w2 from o1).alloc (.cells #[.int .i64 (t : Int), .int .i64 (n : Int), .int .i64 0] 84)).trans o2 (fun k hk => .inr (own_ge r1 k hk).1)
  have m3 := oA.keep0 k18
  have n3 := (oA.frozen (p := ⟨d, 18, none⟩) hdW (by simp)).trans f18
  have LN := hide (show (L ++ [(⟨t, n, 0⟩ : Snt)]).length = m + 1 from by simp [HM.out])
  have G3 := hide (H.out.setL (oW.trans0 oA) LN.out r2 HI.out (by rw [LN.out]; omega))
  have P3 := hide (show Only [d] w _ from (((oW.trans0 oA).mono (by simp)).setCell (p := ⟨d, 18, none⟩) (.inl (by simp)) (.slice A3 (m + 1) c3)))
  clear r1 r2 o1 o2 oA oW
  clear hp' hb' hpe h hh hp hm hr hC hb
  unfold ptr at IN PD ⊢
  go_enter Try.func27, Try.ntmps27
  go_wp2_with (first
    | (go_at_call 41; refine IN.out.mono ?_; rintro e w' ⟨rfl, hw⟩; obtain rfl := hw.symm; clear hw)
    | (go_at_call 35; refine PD.out.mono ?_; rintro e w' ⟨rfl, hw⟩; obtain rfl := hw.symm; clear hw)
    | (go_at_call 42; refine BT.out.mono ?_; rintro e w' ⟨rfl, hw⟩; obtain rfl := hw.symm; clear hw))
  go_ret
  exact ⟨rfl, G3.out, P3.out⟩
theorem used_le_len (L : List Snt) : usedOf L ≤ L.length := List.countP_le_length
theorem send_lenL (T S : Nat) (L : List Snt) (t n v : Int) : (sendL T S L t n v).length ≤ L.length + 1 := by
  unfold sendL lowL
  split
  · split
    · split <;> simp
    · simp
  · omega
theorem rsend_spec (h : DS w d T S L M) (hl : L.length < 1000) (t n v : Int) : Calls Try.prog 27 #[ptr d, .int .i64 t, .int .i64 n, .int .i64 v] w fun e w' => e = .returned (.int .i64 (sendC T S L t n)) ∧ DS w' d T S (sendL T S L t n v) M ∧ Only [d] w w' := by
  by_cases c0 : ¬ inT T t ∨ n < 1 ∨ 31 < n
  · refine (rsend_arg h t n v c0).mono ?_
    rintro e w' ⟨rfl, hw⟩
    obtain rfl := hw.symm
    have hc : sendC T S L t n = 2 := by unfold sendC; rw [if_pos c0]
    refine ⟨by rw [hc], ?_, Only.refl _ _⟩
    unfold sendL
    rw [hc, if_neg (by decide)]
    exact h
  · have ct : inT T t := Classical.byContradiction fun hc => c0 (.inl hc)
    by_cases c3 : 16 ≤ n ∧ S ≤ usedOf L
    · refine (rsend_full h t n v ct c3.1 (by omega) c3.2).mono ?_
      rintro e w' ⟨rfl, o⟩
      have hc : sendC T S L t n = 5 := by unfold sendC; rw [if_neg c0, if_pos c3]
      refine ⟨by rw [hc], ?_, o.mono (by simp)⟩
      unfold sendL
      rw [hc, if_neg (by decide)]
      exact h.only0 o
    · have hc : sendC T S L t n = 0 := by unfold sendC; rw [if_neg c0, if_neg c3]
      unfold sendL
      rw [hc, if_pos rfl]
      obtain ⟨ct0, ct1⟩ := ct
      obtain ⟨t', rfl⟩ : ∃ m : Nat, t = m := ⟨t.toNat, by omega⟩
      obtain ⟨n', rfl⟩ : ∃ m : Nat, n = m := ⟨n.toNat, by omega⟩
      rw [Int.toNat_natCast, Int.toNat_natCast]
      by_cases c4 : (n' : Int) < 16
      · rw [if_pos c4]
        unfold lowL
        cases hh : hasB L t' n'
        · rw [if_neg (by decide)]
          exact rsend_low h t' n' v (by omega) (by omega) (by omega) hh hl
        · rw [if_pos rfl]
          refine (rsend_has h t' n' v (by omega) (by omega) (by omega) hh).mono ?_
          rintro e w' ⟨rfl, hw⟩
          obtain rfl := hw.symm
          exact ⟨rfl, h, Only.refl _ _⟩
      · rw [if_neg c4]
        exact rsend_high h t' n' v (by omega) (by omega) (by omega) (by omega) (by omega) hl
end
end Go.Proofs.Ytnmlcijkggfhmaa
