/- The plain law of ServerBounds: no window of a period holds more than twice the budget, the first none more than it. -/
import Derived.Test.YtidllhnldhnoeaaSv6
namespace Go.Proofs.Ytidllhnldhnoeaa
set_option linter.unusedVariables false
set_option linter.all false

/-- The sum of what was used. -/
def isum : List Int → Int
  | [] => 0
  | x :: r => x + isum r
theorem isum_append (a b : List Int) : isum (a ++ b) = isum a + isum b := by
  induction a with
  | nil => simp [isum]
  | cons x a ih => simp only [List.cons_append, isum, ih]; omega
theorem isum_nonneg {l : List Int} (h : ∀ u ∈ l, 0 ≤ u) : 0 ≤ isum l := by
  induction l with
  | nil => simp [isum]
  | cons a l ih =>
    have h1 := h a (by simp)
    have h2 := ih fun p hp => h p (by simp [hp])
    simp only [isum]; omega
theorem isum_drop_le (l : List Int) (n : Nat) (h : ∀ u ∈ l, 0 ≤ u) : isum (l.drop n) ≤ isum l := by
  have := isum_append (l.take n) (l.drop n)
  rw [List.take_append_drop] at this
  have h1 := isum_nonneg (l := l.take n) fun u hu => h u (List.mem_of_mem_take hu)
  omega
theorem isum_drop_mono (l : List Int) (i j : Nat) (hij : i ≤ j) (h : ∀ u ∈ l, 0 ≤ u) : isum (l.drop j) ≤ isum (l.drop i) := by
  have : l.drop j = (l.drop i).drop (j - i) := by rw [List.drop_drop]; congr 1; omega
  rw [this]
  exact isum_drop_le _ _ fun u hu => h u (List.mem_of_mem_drop hu)

/-- What of a window that begins at d is still on its way. -/
def late (q : Int) (l : List (Int × Int)) : Int := psum (l.filter fun p => decide (q ≤ p.1))
def outst (s : SS) (d : Nat) : Int := (if (d : Int) ≤ s.since then s.used else 0) + late (d + s.period) s.ps

theorem late_append (q : Int) (a b : List (Int × Int)) : late q (a ++ b) = late q a + late q b := by
  unfold late; rw [List.filter_append, psum_append]
theorem late_nonneg (q : Int) {l : List (Int × Int)} (h : ∀ p ∈ l, 1 ≤ p.2) : 0 ≤ late q l := psum_nonneg fun p hp => h p (List.mem_filter.1 hp).1
theorem late_le (q : Int) {l : List (Int × Int)} (h : ∀ p ∈ l, 1 ≤ p.2) : late q l ≤ psum l := psum_filter_le _ h
theorem late_keep (q now : Int) (l : List (Int × Int)) (h : now < q) : late q (keep now l) = late q l := by
  unfold late keep
  rw [List.filter_filter]
  congr 1
  apply List.filter_congr
  intro p _
  by_cases h1 : q ≤ p.1
  · have : ¬ p.1 ≤ now := by omega
    simp [h1, this]
  · simp [h1]

structure Bnd (m : Nat) (s : SS) (us : List Int) : Prop where
  pos : ∀ u ∈ us, 0 ≤ u ∧ u ≤ 1
  act : s.active = true → s.since < m ∧ isum (us.drop s.since.toNat) ≤ s.used
  win : ∀ d : Nat, (m : Int) ≤ d + s.period → (s.active = true ∧ s.since < d) ∨ isum (us.drop d) ≤ s.budget + outst s d
  fst : (m : Int) ≤ s.period → isum us ≤ outst s 0

theorem Bnd.weaken {m : Nat} {s : SS} {us : List Int} (h : Bnd m s us) : Bnd (m + 1) s us :=
  ⟨h.pos, fun ha => ⟨by have := (h.act ha).1; omega, (h.act ha).2⟩, fun d hd => h.win d (by omega), fun hd => h.fst (by omega)⟩

theorem Bnd.due {m : Nat} {s : SS} {us : List Int} (h : Bnd m s us) (now : Int) (hn : now < m) : Bnd m (sDue s now) us := by
  refine ⟨h.pos, h.act, fun d hd => ?_, fun hd => ?_⟩
  · have e : outst (sDue s now) d = outst s d := by
      simp only [sDue] at hd
      simp only [outst, sDue]
      rw [late_keep _ _ _ (by omega)]
      try rfl
    rw [e]
    exact h.win d hd
  · have e : outst (sDue s now) 0 = outst s 0 := by
      simp only [sDue] at hd
      simp only [outst, sDue]
      rw [late_keep _ _ _ (by omega)]
      try rfl
    rw [e]
    exact h.fst hd

theorem Bnd.stop {m : Nat} {s : SS} {us : List Int} (h : Bnd m s us) (hg : Good s) (ha : s.active = true) (least : Int) : Bnd m (sStop s least) us := by
  have ht := hg.total
  have hp0 := psum_nonneg hg.amt
  have hl := hg.l0
  have hu := hg.u0
  have hs0 := hg.s0.1
  obtain ⟨a1, a2⟩ := h.act ha
  have hpos : ∀ u ∈ us, 0 ≤ u := fun u hu => (h.pos u hu).1
  have key : ∀ d : Nat, (d : Int) ≤ s.since → outst s d ≤ outst (sStop s least) d := by
    intro d hd
    unfold outst sStop
    simp only [if_pos hd]
    by_cases hu' : 0 < s.used
    · simp only [if_pos hu']
      rw [late_append]
      have : late (↑d + s.period) [(max least (s.since + s.period), s.used)] = s.used := by
        unfold late
        have : (d : Int) + s.period ≤ max least (s.since + s.period) := by omega
        rw [List.filter_cons]
        simp only [this, decide_true, if_true, List.filter_nil, psum]
        omega
      rw [this]
      split <;> omega
    · simp only [if_neg hu']
      split <;> omega
  have nn : ∀ d : Nat, 0 ≤ outst (sStop s least) d := by
    intro d
    unfold outst sStop
    by_cases hu' : 0 < s.used
    · simp only [if_pos hu']
      rw [late_append]
      have h1 := late_nonneg (↑d + s.period) hg.amt
      have h2 : 0 ≤ late (↑d + s.period) [(max least (s.since + s.period), s.used)] := late_nonneg _ (by simp; omega)
      split <;> omega
    · simp only [if_neg hu']
      have h1 := late_nonneg (↑d + s.period) hg.amt
      split <;> omega
  refine ⟨h.pos, fun hb => by simp [sStop] at hb, fun d hd => .inr ?_, fun hd => ?_⟩
  · have hd' : (m : Int) ≤ d + s.period := hd
    by_cases hds : (d : Int) ≤ s.since
    · have h1 := key d hds
      rcases h.win d hd' with ⟨_, h2⟩ | h2
      · omega
      · show _ ≤ s.budget + _
        omega
    · have h1 := isum_drop_mono us s.since.toNat d (by omega) hpos
      have h2 := nn d
      show _ ≤ s.budget + _
      omega
  · have h1 := key 0 (by omega)
    have h2 := h.fst hd
    omega

theorem Bnd.start {n : Nat} {s : SS} {us : List Int} (h : Bnd (n + 1) s us) (hl : us.length = n) (hg : Good s) (ha : s.active = false) (hn : (n : Int) ≤ 1099511627776) : Bnd (n + 1) (sStart s n).1 us := by
  obtain ⟨u0, s0⟩ := hg.off ha
  have e : sStart s n = ({ s with active := true, since := n, used := 0 }, 0) := by
    unfold sStart
    rw [if_pos ⟨by omega, hn⟩, if_neg (by simp [ha])]
  rw [e]
  have ho : ∀ d : Nat, outst { s with active := true, since := (n : Int), used := 0 } d = outst s d := by
    intro d
    unfold outst
    simp only [u0, ite_self]
  refine ⟨h.pos, fun _ => ⟨by simp only; omega, ?_⟩, fun d hd => ?_, fun hd => ?_⟩
  · simp only [Int.toNat_natCast]
    rw [List.drop_eq_nil_of_le (by omega)]
    simp [isum]
  · rw [ho]
    by_cases hdn : (n : Int) < d
    · exact .inl ⟨rfl, hdn⟩
    · rcases h.win d hd with ⟨h1, _⟩ | h1
      · rw [ha] at h1; cases h1
      · exact .inr h1
  · rw [ho]
    exact h.fst hd

theorem Bnd.more {n : Nat} {s : SS} {us : List Int} (h : Bnd (n + 1) s us) (hl : us.length = n) (hg : Good s) (ha : s.active = true) : Bnd (n + 1) { s with left := s.left - 1, used := s.used + 1 } (us ++ [1]) := by
  obtain ⟨a1, a2⟩ := h.act ha
  have hs0 := hg.s0.1
  have dd : ∀ d : Nat, d ≤ n → isum ((us ++ [1]).drop d) = isum (us.drop d) + 1 := by
    intro d hd
    rw [List.drop_append_of_le_length (by omega), isum_append]
    simp [isum]
  refine ⟨?_, fun _ => ⟨a1, ?_⟩, fun d hd => ?_, fun hd => ?_⟩
  · intro u hu
    rcases List.mem_append.1 hu with hu | hu
    · exact h.pos u hu
    · simp at hu; omega
  · simp only
    rw [dd _ (by omega)]
    omega
  · by_cases hds : s.since < d
    · exact .inl ⟨ha, hds⟩
    · right
      rcases h.win d hd with ⟨_, h1⟩ | h1
      · omega
      · rw [dd d (by omega)]
        unfold outst at *
        simp only at *
        rw [if_pos (by omega)] at *
        omega
  · have h1 := h.fst hd
    have := dd 0 (by omega)
    simp only [List.drop_zero] at this
    rw [this]
    unfold outst at *
    simp only at *
    rw [if_pos (by simpa using hs0)] at *
    omega

theorem Bnd.idle {n : Nat} {s : SS} {us : List Int} (h : Bnd (n + 1) s us) : Bnd (n + 1) s (us ++ [0]) := by
  have dd : ∀ d : Nat, isum ((us ++ [0]).drop d) = isum (us.drop d) := by
    intro d
    by_cases hd : d ≤ us.length
    · rw [List.drop_append_of_le_length hd, isum_append]
      simp [isum]
    · rw [List.drop_eq_nil_of_le (by simp; omega), List.drop_eq_nil_of_le (by omega)]
  refine ⟨?_, fun ha => ?_, fun d hd => ?_, fun hd => ?_⟩
  · intro u hu
    rcases List.mem_append.1 hu with hu | hu
    · exact h.pos u hu
    · simp at hu; omega
  · rw [dd]; exact h.act ha
  · rw [dd]; exact h.win d hd
  · have := dd 0
    simp only [List.drop_zero] at this
    rw [this]; exact h.fst hd

theorem Bnd.use {n : Nat} {s : SS} {us : List Int} (h : Bnd (n + 1) s us) (hl : us.length = n) (hg : Good s) (ha : s.active = true) (hh : high s = true) : (sUse s).2.2 = 0 ∧ Bnd (n + 1) (sUse s).1 (us ++ [1]) := by
  have hm := h.more hl hg ha
  unfold sUse
  rw [if_pos (by simp [ha, hh])]
  split
  · exact ⟨rfl, hm⟩
  · exact ⟨rfl, hm.stop (good_used hg ha hh) ha 0⟩

theorem Bnd.zero (b p m : Int) (h : 0 ≤ b) : Bnd 0 (sNew b p m) [] :=
  ⟨by simp, by simp [sNew], fun d _ => .inr (by simp [isum, sNew, outst, late, psum]; omega), fun _ => by simp [isum, sNew, outst, late, psum]⟩

/-- The law: no window of a period has more than twice the budget, the first none more than it. -/
theorem Bnd.bound {n : Nat} {s : SS} {us : List Int} (h : Bnd (n + 1) s us) (hg : Good s) :
    isum (us.drop (n + 1 - s.period.toNat)) ≤ 2 * s.budget ∧ ((n : Int) < s.period → isum us ≤ s.budget) := by
  have ht := hg.total
  have hp0 := psum_nonneg hg.amt
  have hl := hg.l0
  have hu := hg.u0
  have hbp := hg.bp
  have hb1 := hg.b1
  have hpos : ∀ u ∈ us, 0 ≤ u := fun u hu => (h.pos u hu).1
  have ob : ∀ d : Nat, outst s d ≤ s.budget := by
    intro d
    have := late_le (↑d + s.period) hg.amt
    unfold outst
    split <;> omega
  constructor
  · rcases h.win (n + 1 - s.period.toNat) (by omega) with ⟨h1, h2⟩ | h1
    · have h3 := (h.act h1).2
      have h4 := isum_drop_mono us s.since.toNat (n + 1 - s.period.toNat) (by omega) hpos
      omega
    · have := ob (n + 1 - s.period.toNat)
      omega
  · intro hn
    have h1 := h.fst (by omega)
    have := ob 0
    omega
end Go.Proofs.Ytidllhnldhnoeaa
