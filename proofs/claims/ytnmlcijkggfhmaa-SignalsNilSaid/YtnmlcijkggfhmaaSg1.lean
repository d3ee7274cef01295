/- Signals: plain laws of what is pending, as a list. No condition. -/
namespace Go.Proofs.Ytnmlcijkggfhmaa

/-- What was sent: to whom, which number, with what value. -/
structure Snt where
  t : Nat
  n : Nat
  v : Int
deriving DecidableEq

def isK (t n : Nat) (x : Snt) : Bool := x.t == t && x.n == n
def pendOf (L : List Snt) (t : Nat) : Nat := L.foldl (fun s x => if x.t = t then s ||| 2 ^ x.n else s) 0
def hasB (L : List Snt) (t n : Nat) : Bool := L.any (isK t n)
def queueOf (L : List Snt) (t n : Nat) : List Int := (L.filter (isK t n)).map (·.v)
def usedOf (L : List Snt) : Nat := L.countP (fun x => 16 ≤ x.n)

theorem pend_acc (t : Nat) : ∀ (L : List Snt) (a k : Nat), (L.foldl (fun s x => if x.t = t then s ||| 2 ^ x.n else s) a).testBit k = (a.testBit k || hasB L t k)
  | [], a, k => by simp [hasB]
  | x :: L, a, k => by
    rw [List.foldl_cons, pend_acc t L]
    simp only [hasB, List.any_cons, isK]
    by_cases h : x.t = t
    · rw [if_pos h, Nat.testBit_or, Nat.testBit_two_pow]
      have e : (x.t == t) = true := by simpa using h
      have e2 : (decide (x.n = k)) = (x.n == k) := by
        by_cases h2 : x.n = k <;> simp [h2]
      rw [e, e2, Bool.true_and, Bool.or_assoc]
    · have e : (x.t == t) = false := by simpa using h
      rw [if_neg h, e, Bool.false_and, Bool.false_or]
theorem pend_bit (L : List Snt) (t k : Nat) : (pendOf L t).testBit k = hasB L t k := by
  unfold pendOf
  rw [pend_acc]
  simp
theorem pend_snoc (L : List Snt) (t n : Nat) (v : Int) (u : Nat) : pendOf (L ++ [⟨t, n, v⟩]) u = if t = u then pendOf L u ||| 2 ^ n else pendOf L u := by
  simp [pendOf, List.foldl_append]
theorem pend_lt (L : List Snt) (t : Nat) (h : ∀ x ∈ L, x.n < 32) : pendOf L t < 2 ^ 32 := by
  apply Nat.lt_pow_two_of_testBit
  intro i hi
  rw [pend_bit]
  simp only [hasB, List.any_eq_false, isK]
  intro x hx
  have := h x hx
  have : ¬ x.n = i := by omega
  simp [this]

/-! ## The next one -/
/-- May an entry be taken for a thread within a set? -/
def okS (t W : Nat) (x : Snt) : Bool := x.t == t && W.testBit x.n
/-- Is it less than the best one so far? -/
def better (L : List Snt) (x : Snt) : Option Nat → Bool
  | none => true
  | some b => match L[b]? with
    | none => true
    | some y => decide (x.n < y.n)
/-- The document's search, over the first entries. -/
def bst (L : List Snt) (t W : Nat) : Nat → Option Nat
  | 0 => none
  | i + 1 =>
    match L[i]? with
    | none => bst L t W i
    | some x => if okS t W x && better L x (bst L t W i) then some i else bst L t W i

theorem bst_none (L : List Snt) (t W : Nat) : ∀ i, bst L t W i = none → ∀ j x, j < i → L[j]? = some x → okS t W x = false
  | 0, _, j, x, h, _ => by omega
  | i + 1, hb, j, x, h, hx => by
    unfold bst at hb
    cases hi : L[i]? with
    | none =>
      rw [hi] at hb
      rcases Nat.lt_or_ge j i with hj | hj
      · exact bst_none L t W i hb j x hj hx
      · have : j = i := by omega
        subst this
        rw [hi] at hx; cases hx
    | some y =>
      rw [hi] at hb
      simp only at hb
      split at hb
      · cases hb
      · rename_i hc
        rcases Nat.lt_or_ge j i with hj | hj
        · exact bst_none L t W i hb j x hj hx
        · have : j = i := by omega
          subst this
          rw [hi] at hx; cases hx
          rw [hb] at hc
          simpa [better] using hc
theorem bst_some (L : List Snt) (t W : Nat) : ∀ i b, bst L t W i = some b → b < i ∧ ∃ y, L[b]? = some y ∧ okS t W y = true ∧ (∀ j x, j < i → L[j]? = some x → okS t W x = true → y.n ≤ x.n) ∧ ∀ j x, j < b → L[j]? = some x → okS t W x = true → y.n < x.n
  | 0, b, hb => by simp [bst] at hb
  | i + 1, b, hb => by
    unfold bst at hb
    cases hi : L[i]? with
    | none =>
      rw [hi] at hb
      obtain ⟨h1, y, h2, h3, h4, h5⟩ := bst_some L t W i b hb
      refine ⟨by omega, y, h2, h3, fun j x hj hx => ?_, h5⟩
      rcases Nat.lt_or_ge j i with hj' | hj'
      · exact h4 j x hj' hx
      · have : j = i := by omega
        subst this
        rw [hi] at hx; cases hx
    | some z =>
      rw [hi] at hb
      simp only at hb
      split at hb
      · rename_i hc
        simp only [Option.some.injEq] at hb
        subst hb
        simp only [Bool.and_eq_true] at hc
        obtain ⟨hz, hc⟩ := hc
        refine ⟨by omega, z, hi, hz, ?_⟩
        cases hbi : bst L t W i with
        | none =>
          have hn := bst_none L t W i hbi
          refine ⟨fun j x hj hx hok => ?_, fun j x hj hx hok => by rw [hn j x hj hx] at hok; cases hok⟩
          rcases Nat.lt_or_ge j i with hj' | hj'
          · rw [hn j x hj' hx] at hok; cases hok
          · have : j = i := by omega
            subst this
            rw [hi] at hx; cases hx; exact Nat.le_refl _
        | some c =>
          obtain ⟨h1, y, h2, h3, h4, h5⟩ := bst_some L t W i c hbi
          rw [hbi] at hc
          simp only [better, h2, decide_eq_true_eq] at hc
          refine ⟨fun j x hj hx hok => ?_, fun j x hj hx hok => by have := h4 j x hj hx hok; omega⟩
          rcases Nat.lt_or_ge j i with hj' | hj'
          · have := h4 j x hj' hx hok; omega
          · have : j = i := by omega
            subst this
            rw [hi] at hx; cases hx; exact Nat.le_refl _
      · rename_i hc
        obtain ⟨h1, y, h2, h3, h4, h5⟩ := bst_some L t W i b hb
        refine ⟨by omega, y, h2, h3, fun j x hj hx hok => ?_, h5⟩
        rcases Nat.lt_or_ge j i with hj' | hj'
        · exact h4 j x hj' hx hok
        · have : j = i := by omega
          subst this
          rw [hi] at hx; cases hx
          rw [hb] at hc
          simp only [better, h2, hok, Bool.true_and, decide_eq_true_eq] at hc
          omega

/-- A number that is the least one pending within a set. -/
def Least (L : List Snt) (t W n : Nat) : Prop := hasB L t n = true ∧ W.testBit n = true ∧ ∀ m, m < n → hasB L t m = true → W.testBit m = false

theorem has_iff (L : List Snt) (t n : Nat) : hasB L t n = true ↔ ∃ x ∈ L, x.t = t ∧ x.n = n := by
  simp [hasB, isK]
theorem Least.uniq {L : List Snt} {t W n m : Nat} (h : Least L t W n) (k : Least L t W m) : n = m := by
  rcases Nat.lt_trichotomy n m with hl | rfl | hl
  · have := k.2.2 n hl h.1; rw [h.2.1] at this; cases this
  · rfl
  · have := h.2.2 m hl k.1; rw [k.2.1] at this; cases this
theorem bst_least {L : List Snt} {t W b : Nat} (h : bst L t W L.length = some b) : ∃ y, L[b]? = some y ∧ y.t = t ∧ Least L t W y.n ∧ L.find? (isK t y.n) = some y ∧ L.eraseIdx b = L.eraseP (isK t y.n) := by
  obtain ⟨h1, y, h2, h3, h4, h5⟩ := bst_some L t W _ b h
  simp only [okS, Bool.and_eq_true, beq_iff_eq] at h3
  have hmem := List.mem_of_getElem? h2
  refine ⟨y, h2, h3.1, ⟨(has_iff ..).2 ⟨y, hmem, h3.1, rfl⟩, h3.2, fun m hm hh => ?_⟩, ?_⟩
  · obtain ⟨x, hx, hxt, rfl⟩ := (has_iff ..).1 hh
    obtain ⟨j, hj⟩ := List.getElem?_of_mem hx
    have hjl := (List.getElem?_eq_some_iff.1 hj).1
    cases hw : W.testBit x.n
    · rfl
    · have := h4 j x hjl hj (by simp [okS, hxt, hw])
      omega
  · have hbefore : ∀ j x, j < b → L[j]? = some x → isK t y.n x = false := fun j x hj hx => by
      cases hk : isK t y.n x
      · rfl
      · simp only [isK, Bool.and_eq_true, beq_iff_eq] at hk
        have := h5 j x hj hx (by simp [okS, hk.1, hk.2, h3.2])
        omega
    have hsplit : L = L.take b ++ y :: L.drop (b + 1) := by
      have := List.take_append_drop b L
      rw [List.drop_eq_getElem_cons h1] at this
      rw [List.getElem?_eq_getElem h1, Option.some.injEq] at h2
      rw [h2] at this
      exact this.symm
    have hall : ∀ x ∈ L.take b, isK t y.n x = false := fun x hx => by
      obtain ⟨j, hj, hjx⟩ := List.getElem_of_mem hx
      rw [List.getElem_take] at hjx
      rw [List.length_take] at hj
      exact hbefore j x (by omega) (by rw [← hjx, List.getElem?_eq_getElem])
    have hy : isK t y.n y = true := by simp [isK, h3.1]
    have hlen : (L.take b).length = b := by rw [List.length_take]; omega
    constructor
    · rw [hsplit, List.find?_append, List.find?_eq_none.2 (by simpa using hall)]
      simp [hy]
    · rw [List.eraseIdx_eq_take_drop_succ]
      conv => rhs; rw [hsplit, List.eraseP_append_right _ (by simpa using hall), List.eraseP_cons_of_pos hy]
theorem bst_nobody {L : List Snt} {t W : Nat} (h : bst L t W L.length = none) : ∀ n, hasB L t n = true → W.testBit n = false := by
  intro n hn
  obtain ⟨x, hx, hxt, rfl⟩ := (has_iff ..).1 hn
  obtain ⟨j, hj⟩ := List.getElem?_of_mem hx
  have := bst_none L t W _ h j x (List.getElem?_eq_some_iff.1 hj).1 hj
  simpa [okS, hxt] using this

/-! ## One is taken -/
theorem has_queue (L : List Snt) (t n : Nat) : hasB L t n = !(queueOf L t n).isEmpty := by
  unfold hasB queueOf
  rw [Bool.eq_iff_iff]
  simp [List.filter_eq_nil_iff]
theorem queue_find {L : List Snt} {t n : Nat} {y : Snt} (h : L.find? (isK t n) = some y) : queueOf L t n = y.v :: queueOf (L.eraseP (isK t n)) t n := by
  induction L with
  | nil => simp at h
  | cons x L ih =>
    unfold queueOf at ih ⊢
    cases hx : isK t n x
    · rw [List.find?_cons_of_neg (by simp [hx])] at h
      rw [List.eraseP_cons_of_neg (by simp [hx]), List.filter_cons_of_neg (by simp [hx]), List.filter_cons_of_neg (by simp [hx])]
      exact ih h
    · rw [List.find?_cons_of_pos hx, Option.some.injEq] at h
      subst h
      rw [List.eraseP_cons_of_pos hx, List.filter_cons_of_pos hx, List.map_cons]
theorem queue_other {L : List Snt} {t n u k : Nat} (h : ¬ (t = u ∧ n = k)) : queueOf (L.eraseP (isK t n)) u k = queueOf L u k := by
  induction L with
  | nil => rfl
  | cons x L ih =>
    unfold queueOf at ih ⊢
    cases hx : isK t n x
    · rw [List.eraseP_cons_of_neg (by simp [hx])]
      cases hy : isK u k x
      · rw [List.filter_cons_of_neg (by simp [hy]), List.filter_cons_of_neg (by simp [hy])]; exact ih
      · rw [List.filter_cons_of_pos hy, List.filter_cons_of_pos hy, List.map_cons, List.map_cons, ih]
    · rw [List.eraseP_cons_of_pos hx]
      have hy : isK u k x = false := by
        simp only [isK, Bool.and_eq_true, beq_iff_eq] at hx
        simp only [isK, Bool.and_eq_false_iff, beq_eq_false_iff_ne]
        omega
      rw [List.filter_cons_of_neg (by simp [hy])]
theorem used_find {L : List Snt} {t n : Nat} {y : Snt} (h : L.find? (isK t n) = some y) : usedOf L = usedOf (L.eraseP (isK t n)) + if 16 ≤ n then 1 else 0 := by
  induction L with
  | nil => simp at h
  | cons x L ih =>
    unfold usedOf at ih ⊢
    cases hx : isK t n x
    · rw [List.find?_cons_of_neg (by simp [hx])] at h
      rw [List.eraseP_cons_of_neg (by simp [hx]), List.countP_cons, List.countP_cons, ih h]
      omega
    · rw [List.eraseP_cons_of_pos hx, List.countP_cons]
      simp only [isK, Bool.and_eq_true, beq_iff_eq] at hx
      rw [hx.2]
      simp
theorem queue_snoc (L : List Snt) (t n : Nat) (v : Int) (u k : Nat) : queueOf (L ++ [⟨t, n, v⟩]) u k = if t = u ∧ n = k then queueOf L u k ++ [v] else queueOf L u k := by
  unfold queueOf
  rw [List.filter_append, List.map_append]
  by_cases h : t = u ∧ n = k
  · rw [if_pos h]; simp [isK, h.1, h.2]
  · rw [if_neg h]
    have : isK u k ⟨t, n, v⟩ = false := by
      simp only [isK, Bool.and_eq_false_iff, beq_eq_false_iff_ne]; omega
    simp [this]
theorem used_snoc (L : List Snt) (t n : Nat) (v : Int) : usedOf (L ++ [⟨t, n, v⟩]) = usedOf L + if 16 ≤ n then 1 else 0 := by
  unfold usedOf
  rw [List.countP_append]
  by_cases h : 16 ≤ n <;> simp [h]

/-! ## All, in the order in which they are taken -/
def allOf (L : List Snt) (t : Nat) : List (Nat × Int) := (List.range 32).flatMap fun n => (queueOf L t n).map fun v => (n, v)
theorem flat_next {f g : Nat → List (Nat × Int)} {a : Nat × Int} {n m : Nat} (hn : n < m) (h0 : ∀ k, k < n → f k = []) (hs : f n = a :: g n) (ho : ∀ k, k ≠ n → g k = f k) :
    (List.range m).flatMap f = a :: (List.range m).flatMap g := by
  induction m with
  | zero => omega
  | succ m ih =>
    rw [List.range_succ, List.flatMap_append, List.flatMap_append]
    rcases Nat.lt_or_ge n m with h | h
    · rw [ih h, List.cons_append]
      simp [ho m (by omega)]
    · obtain rfl : n = m := by omega
      have e1 : (List.range n).flatMap f = [] := by
        rw [List.flatMap_eq_nil_iff]
        exact fun k hk => h0 k (List.mem_range.1 hk)
      have e2 : (List.range n).flatMap g = [] := by
        rw [List.flatMap_eq_nil_iff]
        exact fun k hk => by
          have hk := List.mem_range.1 hk
          rw [ho k (by omega)]; exact h0 k hk
      rw [e1, e2]
      simp [hs]
theorem all_next {L : List Snt} {t W n : Nat} {y : Snt} (hl : Least L t W n) (hf : L.find? (isK t n) = some y) (hn : n < 32) (hW : ∀ k, k < 32 → W.testBit k = true) :
    allOf L t = (n, y.v) :: allOf (L.eraseP (isK t n)) t := by
  unfold allOf
  refine flat_next hn (fun k hk => ?_) ?_ (fun k hk => ?_)
  · have h1 : hasB L t k = false := by
      cases h : hasB L t k
      · rfl
      · have := hl.2.2 k hk h; rw [hW k (by omega)] at this; cases this
    rw [has_queue] at h1
    simp only [Bool.not_eq_false', List.isEmpty_iff] at h1
    rw [h1]; rfl
  · rw [queue_find hf, List.map_cons]
  · rw [queue_other (by omega)]
theorem all_nobody {L : List Snt} {t : Nat} (h : ∀ n, n < 32 → hasB L t n = false) : allOf L t = [] := by
  unfold allOf
  rw [List.flatMap_eq_nil_iff]
  intro n hn
  have := h n (List.mem_range.1 hn)
  rw [has_queue] at this
  simp only [Bool.not_eq_false', List.isEmpty_iff] at this
  rw [this]; rfl
theorem all_filter (L : List Snt) (t n m : Nat) : (((List.range m).flatMap fun n => (queueOf L t n).map fun v => (n, v)).filter (fun p => p.1 == n)) = if n < m then (queueOf L t n).map (fun v => (n, v)) else [] := by
  induction m with
  | zero => simp
  | succ m ih =>
    rw [List.range_succ, List.flatMap_append, List.filter_append, ih]
    simp only [List.flatMap_cons, List.flatMap_nil, List.append_nil, List.filter_map]
    by_cases h : n = m
    · subst h
      have e : (queueOf L t n).filter (fun _ => true) = queueOf L t n := List.filter_eq_self.2 (by simp)
      simp [Function.comp_def, e]
    · have e : (fun p : Nat × Int => p.1 == n) ∘ (fun v => (m, v)) = fun _ => false := by
        funext v; simp; omega
      rw [e]
      by_cases h2 : n < m
      · rw [if_pos h2, if_pos (by omega)]; simp
      · rw [if_neg h2, if_neg (by omega)]; simp
theorem all_inj {L M : List Snt} {t u n : Nat} (h : allOf L t = allOf M u) (hn : n < 32) : queueOf L t n = queueOf M u n := by
  have h1 := all_filter L t n 32
  have h2 := all_filter M u n 32
  unfold allOf at h
  rw [h, h2, if_pos hn, if_pos hn] at h1
  have := congrArg (List.map Prod.snd) h1
  simpa [Function.comp_def] using this.symm
theorem all_congr {L M : List Snt} {t u : Nat} (h : ∀ n, n < 32 → queueOf L t n = queueOf M u n) : allOf L t = allOf M u := by
  unfold allOf
  rw [List.flatMap_def, List.flatMap_def]
  congr 1
  exact List.map_congr_left fun n hn => by rw [h n (List.mem_range.1 hn)]

/-- What is pending is as it may be. -/
structure SInv (T S : Nat) (L : List Snt) : Prop where
  t : ∀ x ∈ L, x.t < T
  n1 : ∀ x ∈ L, 1 ≤ x.n
  n2 : ∀ x ∈ L, x.n < 32
  low : ∀ x ∈ L, x.n < 16 → x.v = 0
  one : ∀ t n, n < 16 → (queueOf L t n).length ≤ 1
  used : usedOf L ≤ S
theorem SInv.nil (T S : Nat) : SInv T S [] := by
  refine ⟨?_, ?_, ?_, ?_, ?_, ?_⟩ <;> simp [queueOf, usedOf]
theorem SInv.erase {T S : Nat} {L : List Snt} (h : SInv T S L) (t n : Nat) : SInv T S (L.eraseP (isK t n)) := by
  have hm : ∀ x ∈ L.eraseP (isK t n), x ∈ L := fun x hx => List.mem_of_mem_eraseP hx
  refine ⟨fun x hx => h.t x (hm x hx), fun x hx => h.n1 x (hm x hx), fun x hx => h.n2 x (hm x hx), fun x hx => h.low x (hm x hx), fun u k hk => ?_, Nat.le_trans ?_ h.used⟩
  · refine Nat.le_trans ?_ (h.one u k hk)
    unfold queueOf
    rw [List.length_map, List.length_map]
    exact ((List.eraseP_sublist).filter _).length_le
  · exact (List.eraseP_sublist).countP_le
theorem SInv.sendHigh {T S : Nat} {L : List Snt} (h : SInv T S L) {t n : Nat} {v : Int} (ht : t < T) (hn : 16 ≤ n) (hn2 : n < 32) (hu : usedOf L < S) : SInv T S (L ++ [⟨t, n, v⟩]) := by
  refine ⟨?_, ?_, ?_, ?_, ?_, ?_⟩
  · intro x hx; rcases List.mem_append.1 hx with hx | hx
    · exact h.t x hx
    · simp at hx; subst hx; exact ht
  · intro x hx; rcases List.mem_append.1 hx with hx | hx
    · exact h.n1 x hx
    · simp at hx; subst hx; show 1 ≤ n; omega
  · intro x hx; rcases List.mem_append.1 hx with hx | hx
    · exact h.n2 x hx
    · simp at hx; subst hx; exact hn2
  · intro x hx hl; rcases List.mem_append.1 hx with hx | hx
    · exact h.low x hx hl
    · simp at hx; subst hx; have : n < 16 := hl; omega
  · intro u k hk
    rw [queue_snoc, if_neg (by omega)]
    exact h.one u k hk
  · rw [used_snoc, if_pos hn]; omega
theorem SInv.sendLow {T S : Nat} {L : List Snt} (h : SInv T S L) {t n : Nat} (ht : t < T) (hn1 : 1 ≤ n) (hn : n < 16) (hq : hasB L t n = false) : SInv T S (L ++ [⟨t, n, 0⟩]) := by
  have hq' : queueOf L t n = [] := by
    rw [has_queue] at hq
    simpa using hq
  refine ⟨?_, ?_, ?_, ?_, ?_, ?_⟩
  · intro x hx; rcases List.mem_append.1 hx with hx | hx
    · exact h.t x hx
    · simp at hx; subst hx; exact ht
  · intro x hx; rcases List.mem_append.1 hx with hx | hx
    · exact h.n1 x hx
    · simp at hx; subst hx; exact hn1
  · intro x hx; rcases List.mem_append.1 hx with hx | hx
    · exact h.n2 x hx
    · simp at hx; subst hx; show n < 32; omega
  · intro x hx hl; rcases List.mem_append.1 hx with hx | hx
    · exact h.low x hx hl
    · simp at hx; subst hx; rfl
  · intro u k hk
    rw [queue_snoc]
    split
    · rename_i he
      obtain ⟨rfl, rfl⟩ := he
      rw [hq']; simp
    · exact h.one u k hk
  · rw [used_snoc, if_neg (by omega)]; exact h.used
end Go.Proofs.Ytnmlcijkggfhmaa
