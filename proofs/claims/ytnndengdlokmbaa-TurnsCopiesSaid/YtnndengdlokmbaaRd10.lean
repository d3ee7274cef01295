/- Ready lists: Tail, Head, Remove, Prio said of sequences. Condition: the list lies. -/
import Derived.Test.YtnndengdlokmbaaRd9
namespace Go.Proofs.Ytnndengdlokmbaa
open Go.RowKit
set_option linter.unusedVariables false
set_option linter.all false

/-- A ready list in memory, with its sequences and the links that it has counted. -/
def RL (W : World) (g : Nat) (q : Nat → List Nat) (st : Int) : Prop := ∃ s prio bits, RB W g s prio bits st ∧ Rep s prio bits q
/-- In whose sequence a thread stands; 0: in none. -/
def prioQ (q : Nat → List Nat) (t : Nat) : Nat := ((List.range 32).find? fun p => (q p).contains t).getD 0
theorem RL.only {w w' : World} {g : Nat} {q : Nat → List Nat} {st : Int} {S : List Nat} (h : RL w g q st) (o : Only S w w') (hg : g ∉ S) : RL w' g q st := by
  obtain ⟨s, prio, bits, h1, h2⟩ := h
  exact ⟨s, prio, bits, h1.only o hg, h2⟩
theorem Rep.prioQ {s : RS} {prio : Nat → Int} {bits : Nat} {q : Nat → List Nat} (h : Rep s prio bits q) {t : Nat} (ht : t < 16) : prio t = (prioQ q t : Int) := by
  unfold Ytnndengdlokmbaa.prioQ
  cases hf : (List.range 32).find? fun p => (q p).contains t with
  | none =>
    rw [List.find?_eq_none] at hf
    refine h.pr0 t ht (fun p hp => ?_)
    have := h.out p t hp
    exact hf p (List.mem_range.2 (by omega)) (by simpa using hp)
  | some p =>
    have := List.find?_some hf
    exact h.pr1 p t (by simpa using this)
theorem Rep.prioQ_mem {s : RS} {prio : Nat → Int} {bits : Nat} {q : Nat → List Nat} (h : Rep s prio bits q) {t : Nat} (ht : t < 16) (hp : Ytnndengdlokmbaa.prioQ q t ≠ 0) : t ∈ q (Ytnndengdlokmbaa.prioQ q t) ∧ 1 ≤ Ytnndengdlokmbaa.prioQ q t ∧ Ytnndengdlokmbaa.prioQ q t ≤ 31 := by
  have h0 := h.prioQ ht
  obtain ⟨p, hm, he, h1, h2⟩ := h.inq ht (by rw [h0]; omega)
  have : p = Ytnndengdlokmbaa.prioQ q t := by omega
  subst this
  exact ⟨hm, h1, h2⟩
def argQ (p t : Int) : Prop := 0 ≤ t ∧ t < 16 ∧ 1 ≤ p ∧ p ≤ 31
instance (p t : Int) : Decidable (argQ p t) := inferInstanceAs (Decidable (_ ∧ _ ∧ _ ∧ _))
/-- What putting answers. -/
def putC (q : Nat → List Nat) (p t : Int) : Int := if ¬ argQ p t then 2 else if prioQ q t.toNat ≠ 0 then 7 else 0
def putTQ (q : Nat → List Nat) (p t : Int) : Nat → List Nat := if putC q p t = 0 then setq q p.toNat (q p.toNat ++ [t.toNat]) else q
def putHQ (q : Nat → List Nat) (p t : Int) : Nat → List Nat := if putC q p t = 0 then setq q p.toNat (t.toNat :: q p.toNat) else q
def remC (q : Nat → List Nat) (t : Int) : Int := if ¬ (0 ≤ t ∧ t < 16) then 2 else if prioQ q t.toNat = 0 then 6 else 0
def remQ (q : Nat → List Nat) (t : Int) : Nat → List Nat := if remC q t = 0 then setq q (prioQ q t.toNat) ((q (prioQ q t.toNat)).erase t.toNat) else q
theorem tail_spec (g : Nat) (q : Nat → List Nat) (st : Int) (hst : 0 ≤ st ∧ st < 1000000) (p t : Int) (w : World) (h : RL w g q st) :
    Calls Try.prog 37 #[ptr g, .int .i64 p, .int .i64 t] w fun e w' => e = .returned (.int .i64 (putC q p t)) ∧ (∃ st', st ≤ st' ∧ st' ≤ st + 4 ∧ RL w' g (putTQ q p t) st') ∧ Only [g] w w' := by
  obtain ⟨s, prio, bits, hB, hR⟩ := h
  have hB' := hB
  obtain ⟨cs, hb, hC⟩ := hB'
  have k0 := (hb.cell 0).trans hC.made
  by_cases ha : argQ p t
  · obtain ⟨t1, t2, p1, p2⟩ := ha
    obtain ⟨P, rfl⟩ : ∃ m : Nat, p = m := ⟨p.toNat, by omega⟩
    obtain ⟨T, rfl⟩ : ∃ m : Nat, t = m := ⟨t.toNat, by omega⟩
    have hpr := hR.prioQ (t := T) (by omega)
    have kp : w.cell? ⟨g, 98 + T, none⟩ = some (.int .i64 (prio T)) := by rw [hb.cell, hC.pr T (by omega)]
    have hc0 : argQ (P : Int) (T : Int) := ⟨t1, t2, p1, p2⟩
    by_cases hz : prioQ q T = 0
    · have hc : putC q P T = 0 := by unfold putC; rw [if_neg (by simpa using hc0), if_neg (by simpa using hz)]
      refine (tail_good g P T (by omega) (by omega) (by omega) s prio bits hR.bits_lt st hst w hB (by rw [hpr, hz]; rfl) (hR.tail_link (by omega) (by omega))).mono ?_
      rintro e w' ⟨rfl, R, o⟩
      refine ⟨by rw [hc], ⟨st + 4, by omega, by omega, _, _, _, R, ?_⟩, o⟩
      unfold putTQ
      rw [if_pos hc]
      exact hR.putT (by omega) (by omega) (by omega) (by rw [hpr, hz]; rfl)
    · have hc : putC q P T = 7 := by unfold putC; rw [if_neg (by simpa using hc0), if_pos (by simpa using hz)]
      refine (tail_state g P T (by omega) (by omega) (by omega) (prio T) (by rw [hpr]; omega) w k0 kp).mono ?_
      rintro e w' ⟨rfl, o⟩
      refine ⟨by rw [hc], ⟨st, by omega, by omega, ?_⟩, wide_only o⟩
      unfold putTQ
      rw [if_neg (by rw [hc]; decide)]
      exact RL.only ⟨s, prio, bits, hB, hR⟩ o (by simp)
  · have hc : putC q p t = 2 := by unfold putC; rw [if_pos ha]
    refine (tail_arg g p t ha w k0).mono ?_
    rintro e w' ⟨rfl, o⟩
    refine ⟨by rw [hc], ⟨st, by omega, by omega, ?_⟩, wide_only o⟩
    unfold putTQ
    rw [if_neg (by rw [hc]; decide)]
    exact RL.only ⟨s, prio, bits, hB, hR⟩ o (by simp)
theorem head_spec (g : Nat) (q : Nat → List Nat) (st : Int) (hst : 0 ≤ st ∧ st < 1000000) (p t : Int) (w : World) (h : RL w g q st) :
    Calls Try.prog 61 #[ptr g, .int .i64 p, .int .i64 t] w fun e w' => e = .returned (.int .i64 (putC q p t)) ∧ (∃ st', st ≤ st' ∧ st' ≤ st + 4 ∧ RL w' g (putHQ q p t) st') ∧ Only [g] w w' := by
  obtain ⟨s, prio, bits, hB, hR⟩ := h
  have hB' := hB
  obtain ⟨cs, hb, hC⟩ := hB'
  have k0 := (hb.cell 0).trans hC.made
  by_cases ha : argQ p t
  · obtain ⟨t1, t2, p1, p2⟩ := ha
    obtain ⟨P, rfl⟩ : ∃ m : Nat, p = m := ⟨p.toNat, by omega⟩
    obtain ⟨T, rfl⟩ : ∃ m : Nat, t = m := ⟨t.toNat, by omega⟩
    have hpr := hR.prioQ (t := T) (by omega)
    have kp : w.cell? ⟨g, 98 + T, none⟩ = some (.int .i64 (prio T)) := by rw [hb.cell, hC.pr T (by omega)]
    have hc0 : argQ (P : Int) (T : Int) := ⟨t1, t2, p1, p2⟩
    by_cases hz : prioQ q T = 0
    · have hc : putC q P T = 0 := by unfold putC; rw [if_neg (by simpa using hc0), if_neg (by simpa using hz)]
      refine (head_good g P T (by omega) (by omega) (by omega) s prio bits hR.bits_lt st hst w hB (by rw [hpr, hz]; rfl) (hR.head_link (by omega) (by omega))).mono ?_
      rintro e w' ⟨rfl, R, o⟩
      refine ⟨by rw [hc], ⟨st + 4, by omega, by omega, _, _, _, R, ?_⟩, o⟩
      unfold putHQ
      rw [if_pos hc]
      exact hR.putH (by omega) (by omega) (by omega) (by rw [hpr, hz]; rfl)
    · have hc : putC q P T = 7 := by unfold putC; rw [if_neg (by simpa using hc0), if_pos (by simpa using hz)]
      refine (head_state g P T (by omega) (by omega) (by omega) (prio T) (by rw [hpr]; omega) w k0 kp).mono ?_
      rintro e w' ⟨rfl, o⟩
      refine ⟨by rw [hc], ⟨st, by omega, by omega, ?_⟩, wide_only o⟩
      unfold putHQ
      rw [if_neg (by rw [hc]; decide)]
      exact RL.only ⟨s, prio, bits, hB, hR⟩ o (by simp)
  · have hc : putC q p t = 2 := by unfold putC; rw [if_pos ha]
    refine (head_arg g p t ha w k0).mono ?_
    rintro e w' ⟨rfl, o⟩
    refine ⟨by rw [hc], ⟨st, by omega, by omega, ?_⟩, wide_only o⟩
    unfold putHQ
    rw [if_neg (by rw [hc]; decide)]
    exact RL.only ⟨s, prio, bits, hB, hR⟩ o (by simp)
theorem remove_spec (g : Nat) (q : Nat → List Nat) (st : Int) (hst : 0 ≤ st ∧ st < 1000000) (t : Int) (w : World) (h : RL w g q st) :
    Calls Try.prog 53 #[ptr g, .int .i64 t] w fun e w' => e = .returned (.int .i64 (remC q t)) ∧ (∃ st', st ≤ st' ∧ st' ≤ st + 4 ∧ RL w' g (remQ q t) st') ∧ Only [g] w w' := by
  obtain ⟨s, prio, bits, hB, hR⟩ := h
  have hB' := hB
  obtain ⟨cs, hb, hC⟩ := hB'
  have k0 := (hb.cell 0).trans hC.made
  by_cases ha : 0 ≤ t ∧ t < 16
  · obtain ⟨T, rfl⟩ : ∃ m : Nat, t = m := ⟨t.toNat, by omega⟩
    have hpr := hR.prioQ (t := T) (by omega)
    have kp : w.cell? ⟨g, 98 + T, none⟩ = some (.int .i64 (prio T)) := by rw [hb.cell, hC.pr T (by omega)]
    by_cases hz : prioQ q T = 0
    · have hc : remC q T = 6 := by unfold remC; rw [if_neg (by simpa using ha), if_pos (by simpa using hz)]
      refine (remove_none g T (by omega) w k0 (by rw [kp, hpr, hz]; rfl)).mono ?_
      rintro e w' ⟨rfl, rfl⟩
      refine ⟨by rw [hc], ⟨st, by omega, by omega, ?_⟩, Only.refl _ _⟩
      unfold remQ
      rw [if_neg (by rw [hc]; decide)]
      exact ⟨s, prio, bits, hB, hR⟩
    · have hc : remC q T = 0 := by unfold remC; rw [if_neg (by simpa using ha), if_neg (by simpa using hz)]
      obtain ⟨hm, h1, h2⟩ := hR.prioQ_mem (t := T) (by omega) hz
      obtain ⟨P, hP⟩ : ∃ P, prioQ q T = P := ⟨_, rfl⟩
      rw [hP] at hm h1 h2 hpr
      obtain ⟨A, B, hq⟩ := List.append_of_mem hm
      have hN : (A ++ T :: B).Nodup := hq ▸ hR.nd P
      have hTA : T ∉ A := fun hA => by
        rw [List.nodup_append] at hN
        exact hN.2.2 T hA T (by simp) rfl
      have he : (q P).erase T = A ++ B := by rw [hq, List.erase_append_right _ hTA, List.erase_cons_head]
      obtain ⟨la, lb⟩ := hR.links hq
      refine (remove_good g P T h1 h2 (by omega) s prio bits hR.bits_lt st hst w hB hpr la lb).mono ?_
      rintro e w' ⟨rfl, R, o⟩
      refine ⟨by rw [hc], ⟨st + 2, by omega, by omega, _, _, _, R, ?_⟩, o⟩
      unfold remQ
      rw [if_pos hc]
      simp only [Int.toNat_natCast, hP, he]
      exact hR.del hq
  · have hc : remC q t = 2 := by unfold remC; rw [if_pos ha]
    refine (remove_arg g t ha w k0).mono ?_
    rintro e w' ⟨rfl, rfl⟩
    refine ⟨by rw [hc], ⟨st, by omega, by omega, ?_⟩, Only.refl _ _⟩
    unfold remQ
    rw [if_neg (by rw [hc]; decide)]
    exact ⟨s, prio, bits, hB, hR⟩
end Go.Proofs.Ytnndengdlokmbaa
