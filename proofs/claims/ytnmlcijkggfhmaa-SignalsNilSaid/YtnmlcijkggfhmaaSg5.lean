/- Signals, the program's: the walk of Send, all ways. Condition: the signals lie, or are not there. -/
import Derived.Test.YtnmlcijkggfhmaaSg4
namespace Go.Proofs.Ytnmlcijkggfhmaa
open Go.RowKit
set_option linter.unusedVariables false
set_option linter.all false
set_option maxRecDepth 20000

theorem SC.low {cs : Array Value} {T S : Nat} {L : List Snt} {M : Nat → Nat} {mb : Nat} (h : SC cs T S L M mb) (L' : List Snt) {k p : Nat} (hk : k < 16) (hu : usedOf L' = usedOf L) (hp : pendOf L' k = p) (ho : ∀ i, i ≠ k → pendOf L' i = pendOf L i) :
    SC (cs.setIfInBounds (19 + k) (.int .u32 (p : Nat))) T S L' M mb := by
  have hz := h.size
  refine ⟨by simp [hz], (set_ne (by omega)).trans h.t, (set_ne (by omega)).trans h.s, (set_ne (by omega)).trans (by rw [hu]; exact h.u), fun i hi => (set_ne (by omega)).trans (h.m i hi), fun i hi => ?_, (set_ne (by omega)).trans h.q⟩
  by_cases e : i = k
  · subst e
    rw [hp]
    exact set_eq (by omega)
  · rw [ho i e]
    exact (set_ne (by omega)).trans (h.p i hi)
/-- What is pending when one that does not queue was sent. -/
def lowL (L : List Snt) (t n : Nat) : List Snt := if hasB L t n then L else L ++ [⟨t, n, 0⟩]
theorem low_pend (L : List Snt) (t n u : Nat) : pendOf (lowL L t n) u = if t = u then pendOf L u ||| 2 ^ n else pendOf L u := by
  unfold lowL
  cases hh : hasB L t n
  · rw [if_neg (by simp), pend_snoc]
  · rw [if_pos rfl]
    split
    · rename_i e
      subst e
      apply Nat.eq_of_testBit_eq
      intro i
      rw [Nat.testBit_or, Nat.testBit_two_pow]
      by_cases e : n = i
      · subst e
        rw [pend_bit, hh]; rfl
      · simp [e]
    · rfl
theorem low_used (L : List Snt) (t n : Nat) (hn : n < 16) : usedOf (lowL L t n) = usedOf L := by
  unfold lowL
  split
  · rfl
  · rw [used_snoc, if_neg (by omega)]; rfl
theorem low_queue (L : List Snt) (t n : Nat) (hn : n < 16) (u k : Nat) (hk : 16 ≤ k) : queueOf (lowL L t n) u k = queueOf L u k := by
  unfold lowL
  split
  · rfl
  · rw [queue_snoc, if_neg (by omega)]
theorem low_inv {T S : Nat} {L : List Snt} (h : SInv T S L) {t n : Nat} (ht : t < T) (h1 : 1 ≤ n) (hn : n < 16) : SInv T S (lowL L t n) := by
  unfold lowL
  cases hh : hasB L t n
  · rw [if_neg (by simp)]
    exact h.sendLow ht h1 hn hh
  · rw [if_pos rfl]; exact h
theorem sent_low {w : World} {g mb T S : Nat} {L : List Snt} {M : Nat → Nat} {Bs : List Nat} (h : SG w g mb T S L M Bs) {t n : Nat} (ht : t < T) (h1 : 1 ≤ n) (hn : n < 16) :
    SG (w.setCell ⟨g, 19 + t, none⟩ (.int .u32 ((pendOf L t ||| 2 ^ n : Nat) : Int))) g mb T S (lowL L t n) M Bs := by
  have hne := h.ne
  have hnb := h.nb
  have ht1 := h.t1
  have o : Only [g] w (w.setCell ⟨g, 19 + t, none⟩ (.int .u32 ((pendOf L t ||| 2 ^ n : Nat) : Int))) := (Only.refl [g] w).setCell (p := ⟨g, 19 + t, none⟩) (.inl (by simp)) _
  obtain ⟨cs, hb, hC⟩ := h.cells
  obtain ⟨f, m, hM, hQ⟩ := h.map
  refine ⟨⟨_, hb.set_ (19 + t) _, hC.low (lowL L t n) (by omega) (low_used L t n hn) (by rw [low_pend, if_pos rfl]) (fun i hi => by rw [low_pend, if_neg (Ne.symm hi)])⟩, ⟨f, m, hM.only o (by simpa using hne), ⟨fun k v hk => ?_, fun t' m' a b c d => ?_⟩⟩, low_inv h.inv ht h1 hn, h.t0, h.t1, h.s0, h.s1, h.mlt, fun b hb' => ?_⟩
  · obtain ⟨t', m', e1, e2, e3, e4, e5⟩ := hQ.1 k v hk
    exact ⟨t', m', e1, e2, e3, e4, by rw [low_queue L t n hn _ _ e3]; exact e5⟩
  · rw [low_queue L t n hn _ _ b] at d ⊢
    obtain ⟨A, c', a1, a2, a3⟩ := hQ.2 t' m' a b c d
    exact ⟨A, c', a1, a2, a3.only o (fun b hb => by simpa using (hnb b hb).1)⟩
  · obtain ⟨cs, hc⟩ := h.bs b hb'
    exact ⟨cs, hc.only o (by simpa using (hnb b hb').1)⟩
set_option maxHeartbeats 1000000 in
theorem send_low {w : World} {g mb T S : Nat} {L : List Snt} {M : Nat → Nat} {Bs : List Nat} (h : SG w g mb T S L M Bs) (t n : Nat) (v : Int) (ht : t < T) (h1 : 1 ≤ n) (hn : n < 16) :
    Calls Try.prog 10 #[ptr g, .int .i64 t, .int .i64 n, .int .i64 v] w fun e w' => e = .returned (.int .i64 0) ∧ SG w' g mb T S (lowL L t n) M Bs ∧ Only [g, mb] w w' := by
  have AS := ask_sg h (t : Int)
  rw [askC_in ⟨by omega, by omega⟩] at AS
  have AS := hide AS
  have ht1 := h.t1
  obtain ⟨cs, hb, hC⟩ := h.cells
  have c19 := (hb.cell (19 + t)).trans (hC.p t (by omega))
  have f19 := hb.frozen (19 + t)
  have hplt := h.plt t
  obtain ⟨pd, hpd⟩ : ∃ pd, pendOf L t = pd := ⟨_, rfl⟩
  have FIN := sent_low h ht h1 hn
  have z6 := or_pow (pendOf L t) n hplt (by omega)
  obtain ⟨pd2, hpd2⟩ : ∃ pd2, pendOf L t ||| 2 ^ n = pd2 := ⟨_, rfl⟩
  rw [hpd2] at FIN z6
  rw [hpd] at c19 z6
  have FIN := hide FIN
  have d1 : decide ((n : Int) < 1) = false := decide_eq_false (by omega)
  have d2 : decide (31 < (n : Int)) = false := decide_eq_false (by omega)
  have d3 : decide (16 ≤ (n : Int)) = false := decide_eq_false (by omega)
  have i0 : (0 : Int) ≤ (t : Int) := by omega
  have i1 : (t : Int) < 16 := by omega
  have z5 : (0 : Int) ≤ (n : Int) := by omega
  clear hpd hpd2 h hC hb hplt
  unfold ptr at AS ⊢
  go_enter Try.func10, Try.ntmps10
  go_wp2_with (go_at_call 25; refine AS.out.mono ?_; rintro e w' ⟨rfl, hw⟩; obtain rfl := hw.symm; clear hw)
  go_quiet (fail)
  have c20 : (w.drewN nq).cell? ⟨g, 19 + t, none⟩ = some (.int .u32 (pd : Int)) := c19
  have f20 : (w.drewN nq).frozen? ⟨g, 19 + t, none⟩ = false := f19
  go_wp2_with fail
  refine wp_region_held_drew (S := (fun _ => True)) (by kernel_rfl) (trivial) (fun hHeld => ?_)
  refine wpAnyH_take (i := 0) (oi := ⟨some 66, _, _, _, _, _⟩) (v := ?vb1) rfl (by kernel_rfl) (by kernel_rfl) (by kernel_rfl) (fun _ _ _ h => h) (Or.inl ⟨by rfl, ?hyb1⟩) (by assumption) ?restb1
  case hyb1 => (intro V hSw; (try dsimp only at hSw); go_simp; first | done | (with_reducible rfl))
  try simp only [Act.put, List.setIfInBounds_toArray, List.set_cons_zero, List.set_cons_succ]
  refine wpAnyH_take (i := 1) (oi := ⟨some 67, _, _, _, _, _⟩) (v := ?vb2) rfl (by kernel_rfl) (by kernel_rfl) (by kernel_rfl) (fun _ _ _ h => h) (Or.inl ⟨by rfl, ?hyb2⟩) (by assumption) ?restb2
  case hyb2 => (intro V hSw; (try dsimp only at hSw); go_simp; first | done | (with_reducible rfl))
  try simp only [Act.put, List.setIfInBounds_toArray, List.set_cons_zero, List.set_cons_succ]
  refine wpAnyH_take (i := 2) (oi := ⟨some 68, _, _, _, _, _⟩) (v := ?vb3) rfl (by kernel_rfl) (by kernel_rfl) (by kernel_rfl) (fun _ _ _ h => h) (Or.inl ⟨by rfl, ?hyb3⟩) (by assumption) ?restb3
  case hyb3 => (intro V hSw; (try dsimp only at hSw); go_simp; first | done | (with_reducible rfl))
  try simp only [Act.put, List.setIfInBounds_toArray, List.set_cons_zero, List.set_cons_succ]
  refine wpAnyH_take (i := 3) (oi := ⟨some 69, _, _, _, _, _⟩) (v := ?vb4) rfl (by kernel_rfl) (by kernel_rfl) (by kernel_rfl) (fun _ _ _ h => h) (Or.inl ⟨by rfl, ?hyb4⟩) (by assumption) ?restb4
  case hyb4 => (intro V hSw; (try dsimp only at hSw); go_simp; first | done | (with_reducible rfl))
  try simp only [Act.put, List.setIfInBounds_toArray, List.set_cons_zero, List.set_cons_succ]
  refine wpAnyH_take (i := 4) (oi := ⟨some 70, _, _, _, _, _⟩) (v := ?vb5) rfl (by kernel_rfl) (by kernel_rfl) (by kernel_rfl) (fun _ _ _ h => h) (Or.inl ⟨by rfl, ?hyb5⟩) (by assumption) ?restb5
  case hyb5 => (intro V hSw; (try dsimp only at hSw); go_simp; first | done | (with_reducible rfl))
  try simp only [Act.put, List.setIfInBounds_toArray, List.set_cons_zero, List.set_cons_succ]
  refine wpAnyH_take (i := 6) (oi := ⟨some 72, _, _, _, _, _⟩) (v := ?vb6) rfl (by kernel_rfl) (by kernel_rfl) (by kernel_rfl) (fun _ _ _ h => h) (Or.inl ⟨by rfl, ?hyb6⟩) (by assumption) ?restb6
  case hyb6 => (intro V hSw; (try dsimp only at hSw); go_simp; first | done | (with_reducible rfl))
  try simp only [Act.put, List.setIfInBounds_toArray, List.set_cons_zero, List.set_cons_succ]
  refine wpAnyH_take (i := 7) (oi := ⟨some 73, _, _, _, _, _⟩) (v := ?vb7) rfl (by kernel_rfl) (by kernel_rfl) (by kernel_rfl) (fun _ _ _ h => h) (Or.inl ⟨by rfl, ?hyb7⟩) (by assumption) ?restb7
  case hyb7 => (intro V hSw; (try dsimp only at hSw); go_simp; first | done | (with_reducible rfl))
  try simp only [Act.put, List.setIfInBounds_toArray, List.set_cons_zero, List.set_cons_succ]
  refine wpAnyH_take (i := 9) (oi := ⟨some 75, _, _, _, _, _⟩) (v := ?vb8) rfl (by kernel_rfl) (by kernel_rfl) (by kernel_rfl) (fun _ _ _ h => h) (Or.inl ⟨by rfl, ?hyb8⟩) (by assumption) ?restb8
  case hyb8 => (intro V hSw; (try dsimp only at hSw); go_simp; first | done | (with_reducible rfl))
  try simp only [Act.put, List.setIfInBounds_toArray, List.set_cons_zero, List.set_cons_succ]
  refine wpAnyH_take (i := 10) (oi := ⟨some 76, _, _, _, _, _⟩) (v := ?vb9) rfl (by kernel_rfl) (by kernel_rfl) (by kernel_rfl) (fun _ _ _ h => h) (Or.inl ⟨by rfl, ?hyb9⟩) (by assumption) ?restb9
  case hyb9 => (intro V hSw; (try dsimp only at hSw); go_simp; first | done | (with_reducible rfl))
  try simp only [Act.put, List.setIfInBounds_toArray, List.set_cons_zero, List.set_cons_succ]
  refine wpAnyH_ready (rs := [5]) (by kernel_rfl) (by simp) ?_
  refine AllReadyH.cons (o := ⟨some 71, _, _, _, _, _⟩) rfl (fun K hK => ?_) (AllReadyH.nil)
  rw [if_pos (by rfl)]
  go_simp
  try dsimp only
  refine hK.out _ _ (trivial) (fun hHeld => ?_)
  clear hK K
  try simp only [Act.put, List.setIfInBounds_toArray, List.set_cons_zero, List.set_cons_succ]
  refine wpAnyH_take (i := 8) (oi := ⟨some 74, _, _, _, _, _⟩) (v := ?vb10) rfl (by kernel_rfl) (by kernel_rfl) (by kernel_rfl) (fun _ _ _ h => h) (Or.inl ⟨by rfl, ?hyb10⟩) (by assumption) ?restb10
  case hyb10 => (intro V hSw; (try dsimp only at hSw); go_simp; first | done | (with_reducible rfl))
  try simp only [Act.put, List.setIfInBounds_toArray, List.set_cons_zero, List.set_cons_succ]
  refine wpAnyH_take (i := 11) (oi := ⟨some 77, _, _, _, _, _⟩) (v := ?vb11) rfl (by kernel_rfl) (by kernel_rfl) (by kernel_rfl) (fun _ _ _ h => h) (Or.inl ⟨by rfl, ?hyb11⟩) (by assumption) ?restb11
  case hyb11 => (intro V hSw; (try dsimp only at hSw); go_simp; first | done | (with_reducible rfl))
  try simp only [Act.put, List.setIfInBounds_toArray, List.set_cons_zero, List.set_cons_succ]
  refine wpAnyH_ready (rs := [12]) (by kernel_rfl) (by simp) ?_
  refine AllReadyH.cons (o := ⟨none, _, _, _, _, _⟩) rfl (fun K hK => ?_) (AllReadyH.nil)
  rw [if_pos (by rfl)]
  go_simp
  try dsimp only
  refine hK.out _ _ (trivial) (fun hHeld => ?_)
  clear hK K
  try simp only [Act.put, List.setIfInBounds_toArray, List.set_cons_zero, List.set_cons_succ]
  refine wpAnyH_done (by kernel_rfl) ?_ _
  go_wp2_with fail
  go_ret
  exact ⟨rfl, FIN.out.only0 ((Only.refl [] _).drewN (nq + 1)), ((Only.refl [g, mb] w).setCell (p := ⟨g, 19 + t, none⟩) (.inl (by simp)) _).drewN (nq + 1)⟩
/-- What Send answers. -/
def sendC (T S : Nat) (L : List Snt) (t n : Int) : Int := if ¬ inT T t ∨ n < 1 ∨ 31 < n then 2 else if 16 ≤ n ∧ S ≤ usedOf L then 5 else 0
/-- What is pending behind it. -/
def sendL (T S : Nat) (L : List Snt) (t n v : Int) : List Snt := if sendC T S L t n = 0 then (if n < 16 then lowL L t.toNat n.toNat else L ++ [⟨t.toNat, n.toNat, v⟩]) else L
theorem send_out {w : World} {g mb T S : Nat} {L : List Snt} {M : Nat → Nat} {Bs : List Nat} (h : SG w g mb T S L M Bs) (t n v : Int) (ht : ¬ inT T t) : Calls Try.prog 10 #[ptr g, .int .i64 t, .int .i64 n, .int .i64 v] w fun e w' => e = .returned (.int .i64 2) ∧ w' = w := by
  have AS := ask_sg h t
  rw [askC_out ht] at AS
  have AS := hide AS
  clear h ht
  unfold ptr at AS ⊢
  go_enter Try.func10, Try.ntmps10
  go_wp2_with (go_at_call 25; refine AS.out.mono ?_; rintro e w' ⟨rfl, hw⟩; obtain rfl := hw.symm; clear hw)
  go_ret
  exact ⟨rfl, rfl⟩
theorem send_no (s : Value) (t n v : Int) (w : World) (h : NoSig s w) : Calls Try.prog 10 #[s, .int .i64 t, .int .i64 n, .int .i64 v] w fun e w' => e = .returned (.int .i64 1) ∧ w' = w := by
  have AS := hide (h.self t)
  clear h
  go_enter Try.func10, Try.ntmps10
  go_wp2_with (go_at_call 25; refine AS.out.mono ?_; rintro e w' ⟨rfl, hw⟩; obtain rfl := hw.symm; clear hw)
  go_ret
  exact ⟨rfl, rfl⟩
theorem send_arg {w : World} {g mb T S : Nat} {L : List Snt} {M : Nat → Nat} {Bs : List Nat} (h : SG w g mb T S L M Bs) (t n v : Int) (ht : inT T t) (hn : n < 1 ∨ 31 < n) : Calls Try.prog 10 #[ptr g, .int .i64 t, .int .i64 n, .int .i64 v] w fun e w' => e = .returned (.int .i64 2) ∧ w' = w := by
  have AS := ask_sg h t
  rw [askC_in ht] at AS
  have AS := hide AS
  clear h ht
  unfold ptr at AS ⊢
  by_cases c : n < 1
  · have d1 : decide (n < 1) = true := decide_eq_true c
    clear hn c
    go_enter Try.func10, Try.ntmps10
    go_wp2_with (go_at_call 25; refine AS.out.mono ?_; rintro e w' ⟨rfl, hw⟩; obtain rfl := hw.symm; clear hw)
    go_ret
    exact ⟨rfl, rfl⟩
  · have d1 : decide (n < 1) = false := decide_eq_false c
    have d2 : decide (31 < n) = true := decide_eq_true (by omega)
    clear hn c
    go_enter Try.func10, Try.ntmps10
    go_wp2_with (go_at_call 25; refine AS.out.mono ?_; rintro e w' ⟨rfl, hw⟩; obtain rfl := hw.symm; clear hw)
    go_ret
    exact ⟨rfl, rfl⟩
theorem send_full {w : World} {g mb T S : Nat} {L : List Snt} {M : Nat → Nat} {Bs : List Nat} (h : SG w g mb T S L M Bs) (t n v : Int) (ht : inT T t) (hn : 16 ≤ n) (hn2 : n ≤ 31) (hu : S ≤ usedOf L) : Calls Try.prog 10 #[ptr g, .int .i64 t, .int .i64 n, .int .i64 v] w fun e w' => e = .returned (.int .i64 5) ∧ Only [] w w' := by
  have AS := ask_sg h t
  rw [askC_in ht] at AS
  have AS := hide AS
  obtain ⟨cs, hb, hC⟩ := h.cells
  have c1 := (hb.cell 1).trans hC.s
  have c2 := (hb.cell 2).trans hC.u
  obtain ⟨u, hu'⟩ : ∃ u, usedOf L = u := ⟨_, rfl⟩
  rw [hu'] at c2 hu
  have d1 : decide (n < 1) = false := decide_eq_false (by omega)
  have d2 : decide (31 < n) = false := decide_eq_false (by omega)
  have d3 : decide (16 ≤ n) = true := decide_eq_true hn
  have d4 : decide ((S : Int) ≤ (u : Int)) = true := decide_eq_true (by omega)
  have d5 : decide (S ≤ u) = true := decide_eq_true hu
  clear hu' h ht hC hb
  unfold ptr at AS ⊢
  go_enter Try.func10, Try.ntmps10
  go_wp2_with (go_at_call 25; refine AS.out.mono ?_; rintro e w' ⟨rfl, hw⟩; obtain rfl := hw.symm; clear hw)
  go_quiet (fail)
  go_wp2_with fail
  go_ret
  exact ⟨rfl, (Only.refl [] w).drewN _⟩
theorem send_spec {w : World} {g mb T S : Nat} {L : List Snt} {M : Nat → Nat} {Bs : List Nat} (h : SG w g mb T S L M Bs) (t n v : Int) : Calls Try.prog 10 #[ptr g, .int .i64 t, .int .i64 n, .int .i64 v] w fun e w' =>
    e = .returned (.int .i64 (sendC T S L t n)) ∧ (∃ Bs', SG w' g mb T S (sendL T S L t n v) M Bs' ∧ ∀ b ∈ Bs', b ∈ Bs ∨ w.heap.size ≤ b) ∧ Only [g, mb] w w' := by
  by_cases c1 : inT T t
  · by_cases c2 : n < 1 ∨ 31 < n
    · refine (send_arg h t n v c1 c2).mono ?_
      rintro e w' ⟨rfl, hw⟩
      obtain rfl := hw.symm
      have hc : sendC T S L t n = 2 := by unfold sendC; rw [if_pos (.inr c2)]
      refine ⟨by rw [hc], ⟨Bs, ?_, fun b hb => .inl hb⟩, Only.refl _ _⟩
      unfold sendL
      rw [hc, if_neg (by decide)]
      exact h
    · by_cases c3 : 16 ≤ n ∧ S ≤ usedOf L
      · refine (send_full h t n v c1 c3.1 (by omega) c3.2).mono ?_
        rintro e w' ⟨rfl, o⟩
        have hc : sendC T S L t n = 5 := by unfold sendC; rw [if_neg (by simp only [c1, not_true_eq_false, false_or]; exact c2), if_pos c3]
        refine ⟨by rw [hc], ⟨Bs, ?_, fun b hb => .inl hb⟩, o.mono (by simp)⟩
        unfold sendL
        rw [hc, if_neg (by decide)]
        exact h.only0 o
      · have hc : sendC T S L t n = 0 := by unfold sendC; rw [if_neg (by simp only [c1, not_true_eq_false, false_or]; exact c2), if_neg c3]
        unfold sendL
        rw [hc, if_pos rfl]
        obtain ⟨ct0, ct1⟩ := c1
        obtain ⟨t', rfl⟩ : ∃ m : Nat, t = m := ⟨t.toNat, by omega⟩
        obtain ⟨n', rfl⟩ : ∃ m : Nat, n = m := ⟨n.toNat, by omega⟩
        rw [Int.toNat_natCast, Int.toNat_natCast]
        by_cases c4 : (n' : Int) < 16
        · rw [if_pos c4]
          refine (send_low h t' n' v (by omega) (by omega) (by omega)).mono ?_
          rintro e w' ⟨rfl, hS, o⟩
          exact ⟨rfl, ⟨Bs, hS, fun b hb => .inl hb⟩, o⟩
        · rw [if_neg c4]
          exact send_high h t' n' v (by omega) (by omega) (by omega) (by omega)
  · refine (send_out h t n v c1).mono ?_
    rintro e w' ⟨rfl, hw⟩
    obtain rfl := hw.symm
    have hc : sendC T S L t n = 2 := by unfold sendC; rw [if_pos (.inl c1)]
    refine ⟨by rw [hc], ⟨Bs, ?_, fun b hb => .inl hb⟩, Only.refl _ _⟩
    unfold sendL
    rw [hc, if_neg (by decide)]
    exact h
end Go.Proofs.Ytnmlcijkggfhmaa
