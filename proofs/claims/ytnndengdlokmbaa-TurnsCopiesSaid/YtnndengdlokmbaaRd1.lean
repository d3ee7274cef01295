/- Ready lists: links between threads, and the sequences that they are (plain). No condition. -/
import Derived.KernelRfl
namespace Go.Proofs.Ytnndengdlokmbaa
set_option linter.unusedVariables false
set_option linter.all false

/-- What stands at a place of a sequence; -1: nobody. -/
def atI (l : List Nat) (i : Nat) : Int := match l[i]? with
  | some t => (t : Int)
  | none => -1
theorem atI_some {l : List Nat} {i t : Nat} (h : l[i]? = some t) : atI l i = (t : Int) := by unfold atI; rw [h]
theorem atI_none {l : List Nat} {i : Nat} (h : l.length ≤ i) : atI l i = -1 := by unfold atI; rw [List.getElem?_eq_none h]
theorem atI_left {l r : List Nat} {i : Nat} (h : i < l.length) : atI (l ++ r) i = atI l i := by unfold atI; rw [List.getElem?_append_left h]
def lastI (l : List Nat) : Int := if l = [] then -1 else atI l (l.length - 1)
def befI (l : List Nat) (i : Nat) : Int := if i = 0 then -1 else atI l (i - 1)
def upd (f : Nat → Int) (i : Nat) (v : Int) : Nat → Int := fun j => if j = i then v else f j
theorem upd_same (f : Nat → Int) (i : Nat) (v : Int) : upd f i v i = v := by simp [upd]
theorem upd_other (f : Nat → Int) {i j : Nat} (v : Int) (h : j ≠ i) : upd f i v j = f j := by simp [upd, h]
/-- The links. -/
structure RS where
  head : Nat → Int
  tail : Nat → Int
  next : Nat → Int
  prev : Nat → Int
def RS.join1 (s : RS) (p : Nat) (a b : Int) : RS := if a = -1 then { s with head := upd s.head p b } else { s with next := upd s.next a.toNat b }
def RS.join2 (s : RS) (p : Nat) (a b : Int) : RS := if b = -1 then { s with tail := upd s.tail p a } else { s with prev := upd s.prev b.toNat a }
def RS.join (s : RS) (p : Nat) (a b : Int) : RS := (s.join1 p a b).join2 p a b
/-- The links of priority p are the sequence l. -/
structure Dl (s : RS) (p : Nat) (l : List Nat) : Prop where
  head : s.head p = atI l 0
  tail : s.tail p = lastI l
  next : ∀ i t, l[i]? = some t → s.next t = atI l (i + 1)
  prev : ∀ i t, l[i]? = some t → s.prev t = befI l i
theorem neg_ne (t : Nat) : (t : Int) ≠ -1 := by omega

/-- Put at the tail. -/
def RS.putT (s : RS) (p t : Nat) : RS := (s.join p (s.tail p) t).join p t (-1)
/-- Put at the head. -/
def RS.putH (s : RS) (p t : Nat) : RS := (s.join p (-1) t).join p t (s.head p)
def RS.del (s : RS) (p t : Nat) : RS := s.join p (s.prev t) (s.next t)

theorem lastI_snoc (l : List Nat) (t : Nat) : lastI (l ++ [t]) = (t : Int) := by
  unfold lastI
  rw [if_neg (by simp)]
  exact atI_some (by simp)
theorem lastI_cases (l : List Nat) : (l = [] ∧ lastI l = -1) ∨ ∃ (l' : List Nat) (u : Nat), l = l' ++ [u] ∧ lastI l = (u : Int) := by
  rcases List.eq_nil_or_concat l with h | ⟨l', u, h⟩
  · exact .inl ⟨h, by rw [h]; rfl⟩
  · refine .inr ⟨l', u, by simpa using h, ?_⟩
    rw [h]
    simpa using lastI_snoc l' u
theorem putT_same (s : RS) (p t : Nat) (l : List Nat) (h : Dl s p l) (ht : t ∉ l) (hn : l.Nodup) : Dl (s.putT p t) p (l ++ [t]) := by
  rcases lastI_cases l with ⟨rfl, hl⟩ | ⟨l', u, rfl, hl⟩
  · have hT : s.tail p = -1 := by rw [h.tail, hl]
    have e : s.putT p t = { head := upd s.head p t, tail := upd s.tail p t, next := upd s.next t (-1), prev := upd s.prev t (-1) } := by
      unfold RS.putT RS.join RS.join1 RS.join2
      rw [hT]
      simp [neg_ne]
    rw [e]
    constructor
    · simp [upd_same, atI]
    · simp [upd_same, lastI, atI]
    · intro i v hv
      match i, hv with
      | 0, hv => simp at hv; subst hv; simp [upd_same, atI]
    · intro i v hv
      match i, hv with
      | 0, hv => simp at hv; subst hv; simp [upd_same, befI]
  · have hT : s.tail p = (u : Int) := by rw [h.tail, hl]
    have hut : u ≠ t := by rintro rfl; exact ht (by simp)
    have hul : u ∉ l' := by
      rw [List.nodup_append] at hn
      intro hm
      exact hn.2.2 u hm u (by simp) rfl
    have e : s.putT p t = { head := s.head, tail := upd s.tail p t, next := upd (upd s.next u t) t (-1), prev := upd s.prev t u } := by
      unfold RS.putT RS.join RS.join1 RS.join2
      rw [hT]
      simp [neg_ne]
    rw [e]
    constructor
    · show s.head p = _
      rw [h.head]
      exact (atI_left (by simp)).symm
    · show upd s.tail p t p = _
      rw [upd_same]
      exact (lastI_snoc _ _).symm
    · intro i v hv
      show upd (upd s.next u t) t (-1) v = _
      rcases Nat.lt_trichotomy i (l'.length + 1) with hi | hi | hi
      · rw [List.getElem?_append_left (by simpa using hi)] at hv
        have hvt : v ≠ t := by rintro rfl; exact ht (List.mem_of_getElem? hv)
        rw [upd_other _ _ hvt]
        by_cases hiu : i = l'.length
        · subst hiu
          have : v = u := by simpa using hv.symm
          subst this
          rw [upd_same]
          exact (atI_some (by simp)).symm
        · have hil : i < l'.length := by omega
          have hv' : l'[i]? = some v := by rwa [List.getElem?_append_left hil] at hv
          have hvu : v ≠ u := by rintro rfl; exact hul (List.mem_of_getElem? hv')
          rw [upd_other _ _ hvu, h.next i v hv]
          exact (atI_left (by simp; omega)).symm
      · subst hi
        have : v = t := by simpa using hv.symm
        subst this
        rw [upd_same]
        exact (atI_none (by simp)).symm
      · rw [List.getElem?_eq_none (by simp; omega)] at hv
        cases hv
    · intro i v hv
      show upd s.prev t u v = _
      rcases Nat.lt_trichotomy i (l'.length + 1) with hi | hi | hi
      · rw [List.getElem?_append_left (by simpa using hi)] at hv
        have hvt : v ≠ t := by rintro rfl; exact ht (List.mem_of_getElem? hv)
        rw [upd_other _ _ hvt, h.prev i v hv]
        unfold befI
        split
        · rfl
        · exact (atI_left (by simp; omega)).symm
      · subst hi
        have : v = t := by simpa using hv.symm
        subst this
        rw [upd_same]
        unfold befI
        rw [if_neg (by omega)]
        exact (atI_some (by simp)).symm
      · rw [List.getElem?_eq_none (by simp; omega)] at hv
        cases hv

theorem putT_other (s : RS) (p t : Nat) (l : List Nat) (h : Dl s p l) {p' : Nat} {m : List Nat} (h' : Dl s p' m) (hp : p' ≠ p) (ht : t ∉ m) (hd : ∀ v ∈ l, v ∉ m) : Dl (s.putT p t) p' m := by
  rcases lastI_cases l with ⟨rfl, hl⟩ | ⟨l', u, rfl, hl⟩
  · have hT : s.tail p = -1 := by rw [h.tail, hl]
    have e : s.putT p t = { head := upd s.head p t, tail := upd s.tail p t, next := upd s.next t (-1), prev := upd s.prev t (-1) } := by
      unfold RS.putT RS.join RS.join1 RS.join2
      rw [hT]
      simp [neg_ne]
    rw [e]
    refine ⟨(upd_other _ _ hp).trans h'.head, (upd_other _ _ hp).trans h'.tail, fun i v hv => ?_, fun i v hv => ?_⟩
    · exact (upd_other _ _ (by rintro rfl; exact ht (List.mem_of_getElem? hv))).trans (h'.next i v hv)
    · exact (upd_other _ _ (by rintro rfl; exact ht (List.mem_of_getElem? hv))).trans (h'.prev i v hv)
  · have hT : s.tail p = (u : Int) := by rw [h.tail, hl]
    have hu : u ∉ m := hd u (by simp)
    have e : s.putT p t = { head := s.head, tail := upd s.tail p t, next := upd (upd s.next u t) t (-1), prev := upd s.prev t u } := by
      unfold RS.putT RS.join RS.join1 RS.join2
      rw [hT]
      simp [neg_ne]
    rw [e]
    refine ⟨h'.head, (upd_other _ _ hp).trans h'.tail, fun i v hv => ?_, fun i v hv => ?_⟩
    · have h1 : v ≠ t := by rintro rfl; exact ht (List.mem_of_getElem? hv)
      have h2 : v ≠ u := by rintro rfl; exact hu (List.mem_of_getElem? hv)
      exact ((upd_other _ _ h1).trans (upd_other _ _ h2)).trans (h'.next i v hv)
    · exact (upd_other _ _ (by rintro rfl; exact ht (List.mem_of_getElem? hv))).trans (h'.prev i v hv)
theorem putH_same (s : RS) (p t : Nat) (l : List Nat) (h : Dl s p l) (ht : t ∉ l) (hn : l.Nodup) : Dl (s.putH p t) p (t :: l) := by
  cases l with
  | nil =>
    have hT : s.head p = -1 := h.head
    have e : s.putH p t = { head := upd s.head p t, tail := upd s.tail p t, next := upd s.next t (-1), prev := upd s.prev t (-1) } := by
      unfold RS.putH RS.join RS.join1 RS.join2
      rw [hT]
      simp [neg_ne]
    rw [e]
    refine ⟨upd_same _ _ _, upd_same _ _ _, fun i v hv => ?_, fun i v hv => ?_⟩
    · match i, hv with
      | 0, hv => simp at hv; subst hv; simp [upd_same, atI]
    · match i, hv with
      | 0, hv => simp at hv; subst hv; simp [upd_same, befI]
  | cons u r =>
    have hT : s.head p = (u : Int) := h.head
    have hut : u ≠ t := by rintro rfl; exact ht (by simp)
    have hur : u ∉ r := (List.nodup_cons.1 hn).1
    have e : s.putH p t = { head := upd s.head p t, tail := s.tail, next := upd s.next t u, prev := upd (upd s.prev t (-1)) u t } := by
      unfold RS.putH RS.join RS.join1 RS.join2
      rw [hT]
      simp [neg_ne]
    rw [e]
    refine ⟨upd_same _ _ _, ?_, fun i v hv => ?_, fun i v hv => ?_⟩
    · show s.tail p = _
      rw [h.tail]
      unfold lastI
      rw [if_neg (by simp), if_neg (by simp)]
      simp [atI]
    · match i, hv with
      | 0, hv => simp at hv; subst hv; show upd s.next t u t = _; rw [upd_same]; rfl
      | i + 1, hv =>
        have hv' : (u :: r)[i]? = some v := by simpa using hv
        exact (upd_other _ _ (by rintro rfl; exact ht (List.mem_of_getElem? hv'))).trans (h.next i v hv')
    · match i, hv with
      | 0, hv =>
        simp at hv; subst hv
        show upd (upd s.prev t (-1)) u t t = _
        rw [upd_other _ _ (Ne.symm hut), upd_same]
        rfl
      | i + 1, hv =>
        have hv' : (u :: r)[i]? = some v := by simpa using hv
        have h1 : v ≠ t := by rintro rfl; exact ht (List.mem_of_getElem? hv')
        show upd (upd s.prev t (-1)) u t v = _
        match i, hv' with
        | 0, hv' => simp at hv'; subst hv'; rw [upd_same]; simp [befI, atI]
        | i + 1, hv' =>
          have h2 : v ≠ u := by
            rintro rfl
            exact hur (List.mem_of_getElem? (by simpa using hv'))
          rw [upd_other _ _ h2, upd_other _ _ h1, h.prev (i + 1) v hv']
          unfold befI
          rw [if_neg (by omega), if_neg (by omega)]
          simp [atI]
theorem putH_other (s : RS) (p t : Nat) (l : List Nat) (h : Dl s p l) {p' : Nat} {m : List Nat} (h' : Dl s p' m) (hp : p' ≠ p) (ht : t ∉ m) (hd : ∀ v ∈ l, v ∉ m) : Dl (s.putH p t) p' m := by
  cases l with
  | nil =>
    have hT : s.head p = -1 := h.head
    have e : s.putH p t = { head := upd s.head p t, tail := upd s.tail p t, next := upd s.next t (-1), prev := upd s.prev t (-1) } := by
      unfold RS.putH RS.join RS.join1 RS.join2
      rw [hT]
      simp [neg_ne]
    rw [e]
    refine ⟨(upd_other _ _ hp).trans h'.head, (upd_other _ _ hp).trans h'.tail, fun i v hv => ?_, fun i v hv => ?_⟩
    · exact (upd_other _ _ (by rintro rfl; exact ht (List.mem_of_getElem? hv))).trans (h'.next i v hv)
    · exact (upd_other _ _ (by rintro rfl; exact ht (List.mem_of_getElem? hv))).trans (h'.prev i v hv)
  | cons u r =>
    have hT : s.head p = (u : Int) := h.head
    have hu : u ∉ m := hd u (by simp)
    have e : s.putH p t = { head := upd s.head p t, tail := s.tail, next := upd s.next t u, prev := upd (upd s.prev t (-1)) u t } := by
      unfold RS.putH RS.join RS.join1 RS.join2
      rw [hT]
      simp [neg_ne]
    rw [e]
    refine ⟨(upd_other _ _ hp).trans h'.head, h'.tail, fun i v hv => ?_, fun i v hv => ?_⟩
    · exact (upd_other _ _ (by rintro rfl; exact ht (List.mem_of_getElem? hv))).trans (h'.next i v hv)
    · have h1 : v ≠ t := by rintro rfl; exact ht (List.mem_of_getElem? hv)
      have h2 : v ≠ u := by rintro rfl; exact hu (List.mem_of_getElem? hv)
      exact ((upd_other _ _ h2).trans (upd_other _ _ h1)).trans (h'.prev i v hv)

theorem atI_mid (A B : List Nat) (t : Nat) : atI (A ++ t :: B) (A.length + 1) = atI B 0 := by
  unfold atI
  rw [List.getElem?_append_right (by omega), show A.length + 1 - A.length = 0 + 1 by omega, List.getElem?_cons_succ]
theorem befI_mid (A B : List Nat) (t : Nat) : befI (A ++ t :: B) A.length = lastI A := by
  unfold befI lastI
  by_cases h : A = []
  · rw [h]; rfl
  · rw [if_neg (by simpa using h), if_neg h]
    exact atI_left (by have := List.length_pos_iff.2 h; omega)
/-- What the links are behind a removal, read off the two pieces. -/
theorem del_links (s : RS) (p t : Nat) (A B : List Nat) (h : Dl s p (A ++ t :: B)) : s.prev t = lastI A ∧ s.next t = atI B 0 := by
  have h1 := h.prev A.length t (by simp)
  have h2 := h.next A.length t (by simp)
  rw [befI_mid] at h1
  rw [atI_mid] at h2
  exact ⟨h1, h2⟩
theorem if_cast (f : Nat → Int) (u v : Nat) (x : Int) : upd f u x v = if (u : Int) = (v : Int) then x else f v := by
  unfold upd
  by_cases h : v = u
  · rw [if_pos h, if_pos (by omega)]
  · rw [if_neg h, if_neg (by omega)]
/-- The removal: what turns. -/
theorem del_eq (s : RS) (p t : Nat) (A B : List Nat) (h : Dl s p (A ++ t :: B)) :
    (s.del p t).head = (if A = [] then upd s.head p (atI B 0) else s.head) ∧ (s.del p t).tail = (if B = [] then upd s.tail p (lastI A) else s.tail) ∧
    (∀ v : Nat, (s.del p t).next v = if lastI A = (v : Int) then atI B 0 else s.next v) ∧ (∀ v : Nat, (s.del p t).prev v = if atI B 0 = (v : Int) then lastI A else s.prev v) := by
  obtain ⟨hp, hn⟩ := del_links s p t A B h
  have key : s.del p t = (s.join1 p (lastI A) (atI B 0)).join2 p (lastI A) (atI B 0) := by unfold RS.del RS.join; rw [hp, hn]
  rw [key]
  have hB0 : (B = [] ∧ atI B 0 = -1) ∨ ∃ (b : Nat) (r : List Nat), B = b :: r ∧ atI B 0 = (b : Int) := by
    cases B with
    | nil => exact .inl ⟨rfl, rfl⟩
    | cons b r => exact .inr ⟨b, r, rfl, rfl⟩
  rcases lastI_cases A with ⟨hA, hl⟩ | ⟨A', u, hA, hl⟩ <;> rcases hB0 with ⟨hB, hb⟩ | ⟨b, r, hB, hb⟩
  · rw [hl, hb, if_pos hA, if_pos hB]
    exact ⟨rfl, rfl, fun v => (if_neg (fun e => neg_ne v e.symm)).symm, fun v => (if_neg (fun e => neg_ne v e.symm)).symm⟩
  · rw [hl, hb, if_pos hA, if_neg (by rw [hB]; simp)]
    unfold RS.join1 RS.join2
    simp only [if_true, neg_ne, if_false]
    exact ⟨by first | rfl | trivial, by first | rfl | trivial, fun v => (if_neg (fun e => neg_ne v e.symm)).symm, fun v => if_cast _ b v _⟩
  · rw [hl, hb, if_neg (by rw [hA]; simp), if_pos hB]
    unfold RS.join1 RS.join2
    simp only [if_true, neg_ne, if_false]
    exact ⟨by first | rfl | trivial, by first | rfl | trivial, fun v => if_cast _ u v _, fun v => (if_neg (fun e => neg_ne v e.symm)).symm⟩
  · rw [hl, hb, if_neg (by rw [hA]; simp), if_neg (by rw [hB]; simp)]
    unfold RS.join1 RS.join2
    simp only [neg_ne, if_false]
    exact ⟨by first | rfl | trivial, by first | rfl | trivial, fun v => if_cast _ u v _, fun v => if_cast _ b v _⟩
theorem atI_right (A B : List Nat) (k : Nat) : atI (A ++ B) (A.length + k) = atI B k := by
  unfold atI
  rw [List.getElem?_append_right (by omega), show A.length + k - A.length = k by omega]
theorem lastI_append (A B : List Nat) (h : B ≠ []) : lastI (A ++ B) = lastI B := by
  unfold lastI
  rw [if_neg (by simp [h]), if_neg h]
  have := List.length_pos_iff.2 h
  rw [List.length_append, show A.length + B.length - 1 = A.length + (B.length - 1) by omega, atI_right]
theorem del_same (s : RS) (p t : Nat) (A B : List Nat) (h : Dl s p (A ++ t :: B)) (hn : (A ++ t :: B).Nodup) : Dl (s.del p t) p (A ++ B) := by
  obtain ⟨e1, e2, e3, e4⟩ := del_eq s p t A B h
  have hnA : ∀ v ∈ A, v ∉ B := fun v hv hb => by
    rw [List.nodup_append] at hn
    exact hn.2.2 v hv v (by simp [hb]) rfl
  have hnn : (A ++ B).Nodup := hn.sublist (List.Sublist.append_left (List.sublist_cons_self t B) A)
  refine ⟨?_, ?_, fun i v hv => ?_, fun i v hv => ?_⟩
  · rw [e1]
    by_cases a : A = []
    · rw [if_pos a, upd_same, a]; rfl
    · rw [if_neg a, h.head]
      have := List.length_pos_iff.2 a
      rw [atI_left this, atI_left this]
  · rw [e2]
    by_cases b : B = []
    · rw [if_pos b, upd_same, b]; simp
    · rw [if_neg b, h.tail, lastI_append _ _ b, show A ++ t :: B = (A ++ [t]) ++ B by simp, lastI_append _ _ b]
  · rw [e3]
    rcases Nat.lt_or_ge i A.length with hi | hi
    · have hv' : A[i]? = some v := by rwa [List.getElem?_append_left hi] at hv
      by_cases hl : i + 1 = A.length
      · have : lastI A = (v : Int) := by
          unfold lastI
          rw [if_neg (by rintro rfl; simp at hi), show A.length - 1 = i by omega]
          exact atI_some hv'
        rw [if_pos this, hl, show A.length = A.length + 0 by omega, atI_right]
      · have : lastI A ≠ (v : Int) := by
          unfold lastI
          rw [if_neg (by rintro rfl; simp at hi)]
          intro e
          have hg : A[A.length - 1]? = some A[A.length - 1] := List.getElem?_eq_getElem (by omega)
          rw [atI_some hg] at e
          have hAn : A.Nodup := hnn.sublist (List.sublist_append_left A B)
          have := (List.getElem?_inj (by omega : A.length - 1 < A.length) hAn).1 (show A[A.length - 1]? = A[i]? by rw [hg, hv']; congr 1; omega)
          omega
        rw [if_neg this, h.next i v (by rw [List.getElem?_append_left hi]; exact hv'), atI_left (by omega), atI_left (by omega)]
    · obtain ⟨k, rfl⟩ : ∃ k, i = A.length + k := ⟨i - A.length, by omega⟩
      have hv' : B[k]? = some v := by rwa [List.getElem?_append_right (by omega), show A.length + k - A.length = k by omega] at hv
      have hvB : v ∈ B := List.mem_of_getElem? hv'
      have : lastI A ≠ (v : Int) := by
        rcases lastI_cases A with ⟨_, h2⟩ | ⟨A', u, h1, h2⟩
        · rw [h2]; exact fun e => neg_ne v e.symm
        · rw [h2]
          intro e
          have : u = v := by omega
          subst this
          exact hnA u (by rw [h1]; simp) hvB
      have hx : (A ++ t :: B)[A.length + (k + 1)]? = some v := by
        rw [List.getElem?_append_right (by omega), show A.length + (k + 1) - A.length = k + 1 by omega, List.getElem?_cons_succ]; exact hv'
      rw [if_neg this, h.next _ v hx, show A.length + (k + 1) + 1 = A.length + (k + 1 + 1) by omega, atI_right, show A.length + k + 1 = A.length + (k + 1) by omega, atI_right]
      rfl
  · rw [e4]
    rcases Nat.lt_or_ge i A.length with hi | hi
    · have hv' : A[i]? = some v := by rwa [List.getElem?_append_left hi] at hv
      have hvA : v ∈ A := List.mem_of_getElem? hv'
      have : atI B 0 ≠ (v : Int) := by
        cases B with
        | nil => exact fun e => neg_ne v e.symm
        | cons b r =>
          intro e
          have : b = v := by have e' : (b : Int) = (v : Int) := e; omega
          subst this
          exact hnA b hvA (by simp)
      rw [if_neg this, h.prev i v (by rw [List.getElem?_append_left hi]; exact hv')]
      unfold befI
      split
      · rfl
      · rw [atI_left (by omega), atI_left (by omega)]
    · obtain ⟨k, rfl⟩ : ∃ k, i = A.length + k := ⟨i - A.length, by omega⟩
      have hv' : B[k]? = some v := by rwa [List.getElem?_append_right (by omega), show A.length + k - A.length = k by omega] at hv
      have hx : (A ++ t :: B)[A.length + (k + 1)]? = some v := by
        rw [List.getElem?_append_right (by omega), show A.length + (k + 1) - A.length = k + 1 by omega, List.getElem?_cons_succ]; exact hv'
      have hBn : B.Nodup := hnn.sublist (List.sublist_append_right A B)
      by_cases hk : k = 0
      · subst hk
        rw [if_pos (atI_some hv')]
        unfold befI lastI
        by_cases a : A = []
        · rw [if_pos a, if_pos (by simp [a])]
        · have := List.length_pos_iff.2 a
          rw [if_neg a, if_neg (by omega), atI_left (by omega)]
          rfl
      · have : atI B 0 ≠ (v : Int) := by
          intro e
          have hb0 : 0 < B.length := by have := (List.getElem?_eq_some_iff.1 hv').1; omega
          have hg : B[0]? = some B[0] := List.getElem?_eq_getElem hb0
          rw [atI_some hg] at e
          have := (List.getElem?_inj hb0 hBn).1 (show B[0]? = B[k]? by rw [hg, hv']; congr 1; omega)
          omega
        rw [if_neg this, h.prev _ v hx]
        unfold befI
        rw [if_neg (by omega), if_neg (by omega), show A.length + (k + 1) - 1 = A.length + k by omega, show A.length + k - 1 = A.length + (k - 1) by omega, atI_right, atI_right]
        obtain ⟨j, rfl⟩ : ∃ j, k = j + 1 := ⟨k - 1, by omega⟩
        rfl
theorem del_other (s : RS) (p t : Nat) (A B : List Nat) (h : Dl s p (A ++ t :: B)) {p' : Nat} {m : List Nat} (h' : Dl s p' m) (hp : p' ≠ p) (hd : ∀ v ∈ A ++ t :: B, v ∉ m) : Dl (s.del p t) p' m := by
  obtain ⟨e1, e2, e3, e4⟩ := del_eq s p t A B h
  refine ⟨?_, ?_, fun i v hv => ?_, fun i v hv => ?_⟩
  · rw [e1]
    split
    · exact (upd_other _ _ hp).trans h'.head
    · exact h'.head
  · rw [e2]
    split
    · exact (upd_other _ _ hp).trans h'.tail
    · exact h'.tail
  · have hm := List.mem_of_getElem? hv
    rw [e3, if_neg, h'.next i v hv]
    rcases lastI_cases A with ⟨_, h2⟩ | ⟨A', u, h1, h2⟩
    · rw [h2]; exact fun e => neg_ne v e.symm
    · rw [h2]
      intro e
      have : u = v := by omega
      subst this
      exact hd u (by rw [h1]; simp) hm
  · have hm := List.mem_of_getElem? hv
    rw [e4, if_neg, h'.prev i v hv]
    cases B with
    | nil => exact fun e => neg_ne v e.symm
    | cons b r =>
      intro e
      have : b = v := by have e' : (b : Int) = (v : Int) := e; omega
      subst this
      exact hd b (by simp) hm
end Go.Proofs.Ytnndengdlokmbaa
