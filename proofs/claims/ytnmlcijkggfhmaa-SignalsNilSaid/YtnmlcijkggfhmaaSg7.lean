/- Signals, the program's: Peek, as one law; plain laws of a signal that is taken. Condition: the signals lie, or are not there. -/
import Derived.Test.YtnmlcijkggfhmaaSg6
namespace Go.Proofs.Ytnmlcijkggfhmaa
open Go.RowKit
set_option linter.unusedVariables false
set_option linter.all false
set_option maxRecDepth 20000

/-- The next number within a set. -/
def nextN (L : List Snt) (t W : Nat) : Option Nat := (List.range 32).find? fun n => hasB L t n && W.testBit n
theorem nextN_some {L : List Snt} {t W n : Nat} (h : nextN L t W = some n) : n < 32 ∧ Least L t W n := by
  unfold nextN at h
  rw [List.find?_range_eq_some] at h
  obtain ⟨h1, h2, h3⟩ := h
  simp only [Bool.and_eq_true] at h1
  refine ⟨by simpa using h2, h1.1, h1.2, fun m hm hh => ?_⟩
  have := h3 m hm
  simpa [hh] using this
theorem nextN_none {L : List Snt} {t W : Nat} (h : nextN L t W = none) : ∀ n, n < 32 → hasB L t n = true → W.testBit n = false := by
  intro n hn hh
  unfold nextN at h
  rw [List.find?_eq_none] at h
  have := h n (List.mem_range.2 hn)
  simpa [hh] using this
theorem nextN_of {L : List Snt} {t W n : Nat} (hn : n < 32) (h : Least L t W n) : nextN L t W = some n := by
  cases hc : nextN L t W with
  | none =>
    have := nextN_none hc n hn h.1
    rw [h.2.1] at this; cases this
  | some m => rw [(nextN_some hc).2.uniq h]
/-- What comes next for a thread, whatever number it has. -/
def peekI (T : Nat) (L : List Snt) (t : Int) (W : Nat) : Option (Nat × Int) := if inT T t then (nextN L t.toNat W).map fun n => (n, (queueOf L t.toNat n).headD 0) else none
def sigV : Option (Nat × Int) → Value
  | none => .tuple #[.agg #[.int .i64 0, .int .i64 0], .bool false]
  | some x => .tuple #[.agg #[.int .i64 (x.1 : Nat), .int .i64 x.2], .bool true]
theorem queue_vals {T S : Nat} {L : List Snt} (h : SInv T S L) {t n : Nat} (hn : n < 16) (hh : hasB L t n = true) : queueOf L t n = [0] := by
  have h1 := h.one t n hn
  have hz : ∀ v ∈ queueOf L t n, v = 0 := fun v hv => by
    unfold queueOf at hv
    obtain ⟨x, hx, rfl⟩ := List.mem_map.1 hv
    obtain ⟨hx1, hx2⟩ := List.mem_filter.1 hx
    simp only [isK, Bool.and_eq_true, beq_iff_eq] at hx2
    exact h.low x hx1 (by omega)
  rw [has_queue] at hh
  match hq : queueOf L t n with
  | [] => rw [hq] at hh; simp at hh
  | [v] => rw [hz v (by rw [hq]; simp)]
  | a :: b :: r => rw [hq] at h1; simp at h1
theorem has_lt {T S : Nat} {L : List Snt} (h : SInv T S L) {t n : Nat} (hh : hasB L t n = true) : t < T ∧ 1 ≤ n ∧ n < 32 := by
  obtain ⟨x, hx, rfl, rfl⟩ := (has_iff ..).1 hh
  exact ⟨h.t x hx, h.n1 x hx, h.n2 x hx⟩
theorem pendI_lt {w : World} {g mb T S : Nat} {L : List Snt} {M : Nat → Nat} {Bs : List Nat} (h : SG w g mb T S L M Bs) (t : Int) : pendI L T t < 4294967296 := by
  unfold pendI
  split
  · exact h.plt _
  · decide
theorem peek_no (s : Option Addr) (t : Int) (W : Nat) (hW : W < 4294967296) (w : World) (h : NoSig (.pointer s) w) : Calls Try.prog 23 #[.pointer s, .int .i64 t, .int .u32 W] w fun e w' => e = .returned (sigV none) ∧ Only [] w w' := by
  refine peek_none s t 0 W (by decide) hW w (fun V o => ?_) (fun m _ _ => by simp)
  exact pending_no (.pointer s) t V (h.only0 o)
theorem peek_spec {w : World} {g mb T S : Nat} {L : List Snt} {M : Nat → Nat} {Bs : List Nat} (h : SG w g mb T S L M Bs) (t : Int) (W : Nat) (hW : W < 4294967296) :
    Calls Try.prog 23 #[ptr g, .int .i64 t, .int .u32 W] w fun e w' => e = .returned (sigV (peekI T L t W)) ∧ Only [] w w' := by
  have hp := pendI_lt h t
  have hP : ∀ V, Only [] w V → Calls Try.prog 13 #[ptr g, .int .i64 t] V fun e w' => e = .returned (.int .u32 (pendI L T t : Nat)) ∧ w' = V := fun V o => pending_any (h.only0 o) t
  unfold peekI
  by_cases c : inT T t
  · rw [if_pos c]
    have hpe : pendI L T t = pendOf L t.toNat := if_pos c
    obtain ⟨k, rfl⟩ : ∃ k : Nat, t = k := ⟨t.toNat, by have := c.1; omega⟩
    rw [Int.toNat_natCast] at hpe ⊢
    have htT : k < T := by have := c.2; omega
    cases hx : nextN L k W with
    | none =>
      refine peek_none _ (k : Int) (pendI L T k) W hp hW w hP (fun m m1 m2 => ?_)
      rw [hpe, Nat.testBit_and, pend_bit]
      cases hh : hasB L k m
      · rfl
      · rw [nextN_none hx m m2 hh]; rfl
    | some n =>
      obtain ⟨hn, hl⟩ := nextN_some hx
      obtain ⟨_, n1, _⟩ := has_lt h.inv hl.1
      have hbit : (pendI L T k &&& W).testBit n = true := by rw [hpe, Nat.testBit_and, pend_bit, hl.1, hl.2.1]; rfl
      have hbef : ∀ m, 1 ≤ m → m < n → (pendI L T k &&& W).testBit m = false := fun m _ hm => by
        rw [hpe, Nat.testBit_and, pend_bit]
        cases hh : hasB L k m
        · rfl
        · rw [hl.2.2 m hm hh]; rfl
      simp only [Option.map_some, sigV]
      by_cases h16 : n < 16
      · rw [queue_vals h.inv h16 hl.1]
        exact peek_low _ (k : Int) (pendI L T k) W n hp hW w hP n1 h16 hbit hbef
      · obtain ⟨A, cc, hlk, hcl, hI, hA⟩ := h.look k n htT hn
        rw [if_pos (by omega)] at hlk hcl hA
        have hI := hI (by omega)
        have hq : 0 < (queueOf L k n).length := by
          have := hl.1
          rw [has_queue] at this
          cases hq : queueOf L k n with
          | nil => rw [hq] at this; simp at this
          | cons a r => simp
        obtain ⟨gq, o, cs', rfl, _, hb', hc'⟩ := hI hq
        obtain ⟨cs, hb, hC⟩ := h.cells
        have hv : (queueOf L k n)[0]? = some ((queueOf L k n).headD 0) := by
          cases hq' : queueOf L k n with
          | nil => rw [hq'] at hq; simp at hq
          | cons a r => rfl
        exact peek_high g mb k (pendI L T k) W n _ hp hW w hP n1 (by omega) hn hbit hbef ((hb.cell 35).trans hC.q) gq o _ cc hq ((hb'.cell o).trans (by have := hc' 0 _ hv; rwa [Nat.add_zero] at this)) hlk
  · rw [if_neg c]
    refine peek_none _ t (pendI L T t) W hp hW w hP (fun m _ _ => ?_)
    unfold pendI
    rw [if_neg c]
    simp

/-! ## One is taken -/
theorem andNot_pow (p n : Nat) (hp : p < 4294967296) (hn : n < 32) : bits .andNot .u32 (p : Int) (IntKind.u32.wrap (2 ^ n)) = ((p &&& (4294967295 - 2 ^ n) : Nat) : Int) := by
  have h1 : 2 ^ n < 4294967296 := Nat.pow_lt_pow_right (show 1 < 2 by decide) hn
  have h2 : IntKind.u32.wrap (2 ^ n) = ((2 ^ n : Nat) : Int) := by
    rw [IntKind.wrap_u32', show ((2 : Int) ^ n) = ((2 ^ n : Nat) : Int) by simp]
    exact Int.emod_eq_of_lt (Int.natCast_nonneg _) (show ((2 ^ n : Nat) : Int) < ((4294967296 : Nat) : Int) from Int.ofNat_lt.2 h1)
  rw [h2, u32_andNot_nat p (2 ^ n) hp h1]
theorem clear_bit (p n i : Nat) (hp : p < 2 ^ 32) (hn : n < 32) : (p &&& (4294967295 - 2 ^ n)).testBit i = (p.testBit i && !(n == i)) := by
  have h1 : 2 ^ n < 2 ^ 32 := Nat.pow_lt_pow_right (show 1 < 2 by decide) hn
  have e : (4294967295 - 2 ^ n : Nat) = 2 ^ 32 - (2 ^ n + 1) := by
    have : (2 : Nat) ^ 32 = 4294967296 := by decide
    omega
  rw [Nat.testBit_and, e, Nat.testBit_two_pow_sub_succ h1, Nat.testBit_two_pow]
  by_cases hi : i < 32
  · have : decide (n = i) = (n == i) := by by_cases h : n = i <;> simp [h]
    rw [this]
    simp [hi]
  · have : p.testBit i = false := Nat.testBit_lt_two_pow (Nat.lt_of_lt_of_le hp (show 2 ^ 32 ≤ 2 ^ i from Nat.pow_le_pow_right (by decide) (by omega)))
    simp [this]
/-- What is pending when the next one of a number was taken. -/
def takeL (L : List Snt) (t n : Nat) : List Snt := L.eraseP (isK t n)
theorem take_has (L : List Snt) (t n u k : Nat) : hasB (takeL L t n) u k = if t = u ∧ n = k then !(queueOf L t n).tail.isEmpty else hasB L u k := by
  unfold takeL
  rw [has_queue]
  by_cases h : t = u ∧ n = k
  · obtain ⟨rfl, rfl⟩ := h
    rw [if_pos ⟨rfl, rfl⟩]
    cases hf : L.find? (isK t n) with
    | none =>
      have he : L.eraseP (isK t n) = L := List.eraseP_of_forall_not (fun a ha => by
        rw [List.find?_eq_none] at hf
        exact hf a ha)
      have hq : queueOf L t n = [] := by
        unfold queueOf
        rw [List.filter_eq_nil_iff.2 (fun a ha => by
          rw [List.find?_eq_none] at hf
          exact hf a ha)]
        rfl
      rw [he, hq]; rfl
    | some y => rw [queue_find hf]; rfl
  · rw [if_neg h, queue_other h, has_queue]
theorem take_pend_more {L : List Snt} {t n : Nat} (h : hasB L t n = true) (hq : (queueOf L t n).tail ≠ []) (u : Nat) : pendOf (takeL L t n) u = pendOf L u := by
  apply Nat.eq_of_testBit_eq
  intro i
  rw [pend_bit, pend_bit, take_has]
  split
  · rename_i e
    obtain ⟨rfl, rfl⟩ := e
    rw [h]
    cases hc : (queueOf L t n).tail with
    | nil => exact absurd hc hq
    | cons a r => rfl
  · rfl
theorem take_pend_last {L : List Snt} {t n : Nat} (hL : ∀ x ∈ L, x.n < 32) (hn : n < 32) (hq : (queueOf L t n).tail = []) (u : Nat) : pendOf (takeL L t n) u = if t = u then pendOf L u &&& (4294967295 - 2 ^ n) else pendOf L u := by
  apply Nat.eq_of_testBit_eq
  intro i
  rw [pend_bit, take_has, hq]
  by_cases e : t = u
  · subst e
    rw [if_pos rfl, clear_bit _ n i (pend_lt L t hL) hn, pend_bit]
    by_cases e2 : n = i
    · subst e2; simp
    · rw [if_neg (by omega)]
      have : (n == i) = false := by simpa using e2
      rw [this]; simp
  · rw [if_neg e, if_neg (by omega), pend_bit]
theorem take_queue {L : List Snt} {t n : Nat} (u k : Nat) : queueOf (takeL L t n) u k = if t = u ∧ n = k then (queueOf L t n).tail else queueOf L u k := by
  unfold takeL
  by_cases h : t = u ∧ n = k
  · obtain ⟨rfl, rfl⟩ := h
    rw [if_pos ⟨rfl, rfl⟩]
    cases hf : L.find? (isK t n) with
    | none =>
      have he : L.eraseP (isK t n) = L := List.eraseP_of_forall_not (fun a ha => by
        rw [List.find?_eq_none] at hf
        exact hf a ha)
      have hq : queueOf L t n = [] := by
        unfold queueOf
        rw [List.filter_eq_nil_iff.2 (fun a ha => by
          rw [List.find?_eq_none] at hf
          exact hf a ha)]
        rfl
      rw [he, hq]; rfl
    | some y => rw [queue_find hf]; rfl
  · rw [if_neg h, queue_other h]
theorem has_find {L : List Snt} {t n : Nat} (h : hasB L t n = true) : ∃ y, L.find? (isK t n) = some y := by
  cases hf : L.find? (isK t n) with
  | some y => exact ⟨y, rfl⟩
  | none =>
    rw [List.find?_eq_none] at hf
    obtain ⟨x, hx, hxt, hxn⟩ := (has_iff ..).1 h
    exact absurd (by simp [isK, hxt, hxn]) (hf x hx)
theorem take_used {L : List Snt} {t n : Nat} (h : hasB L t n = true) : usedOf L = usedOf (takeL L t n) + if 16 ≤ n then 1 else 0 := by
  obtain ⟨y, hy⟩ := has_find h
  exact used_find hy
end Go.Proofs.Ytnmlcijkggfhmaa
