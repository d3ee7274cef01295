/- Script: scripts and their texts, as plain functions: every text is the one script that has it, or none. No condition. -/
import Derived.Test.YteblhklclcjonaaGreatDoorSc1
namespace Go.Proofs.YteblhklclcjonaaGreatDoor
open Go.Lib
set_option linter.unusedVariables false
set_option linter.all false
set_option maxRecDepth 20000

/-! ## Instructions' lines -/
theorem cut_whole (b : UInt8) : ∀ s : List UInt8, (cutAt b s).2.2 = true → s = (cutAt b s).1 ++ b :: (cutAt b s).2.1
  | [], h => by simp [cutAt] at h
  | c :: r, h => by
    unfold cutAt at h ⊢
    split
    · rename_i hc; simp [hc]
    · rename_i hc
      rw [if_neg hc] at h
      have := cut_whole b r h
      simp only [List.cons_append]
      rw [← this]
def txtL (p : List Ins) : List UInt8 := p.flatMap fun i => lineB i ++ [10]
/-- An instruction that may be in a program of a length. -/
structure May (len : Int) (i : Ins) : Prop where
  may : mayI i len = true
  may256 : mayI i 256 = true
  i0 : -9223372036854775808 ≤ i.imm
  i1 : i.imm ≤ 9223372036854775807
theorem pl_digF : ∀ f u, (digF f u).length ≤ f + 1
  | 0, u => by simp [digF]
  | f + 1, u => by
    unfold digF
    split
    · simp
    · have := pl_digF f (u / 10)
      simp; omega
theorem pl_itoaF (n : Int) : (itoaF n).length ≤ 22 := by
  unfold itoaF
  split
  · have := pl_digF 20 n.natAbs; simp; omega
  · have := pl_digF 20 n.toNat; omega
theorem regB_facts (n : Bool) (x : Int) (h : regOk n x = true) : (10 : UInt8) ∉ regB n x ∧ (regB n x).length ≤ 3 := by
  unfold regOk at h
  unfold regB
  cases n with
  | false => simp
  | true =>
    simp at h
    obtain ⟨k, rfl⟩ : ∃ k : Nat, x = k := ⟨x.toNat, by omega⟩
    have h1 := (itoaF_blank (k : Int) (by omega) (by omega)).2
    have h2 := (digit_reg k (by omega)).1
    refine ⟨?_, ?_⟩
    · simp only [if_true, List.mem_cons, not_or]
      exact ⟨by decide, by decide, h1⟩
    · simp [h2]
theorem line_facts {i : Ins} (hm : mayI i 256 = true) (h0 : -9223372036854775808 ≤ i.imm) (h1 : i.imm ≤ 9223372036854775807) : (10 : UInt8) ∉ lineB i ∧ (lineB i).length ≤ 36 := by
  obtain ⟨-, hd, ha, hb, -⟩ := mayI_parts hm
  have r1 := regB_facts _ _ hd
  have r2 := regB_facts _ _ ha
  have r3 := regB_facts _ _ hb
  have hn := nm_blank i.op.toNat
  have hi := (itoaF_blank i.imm h0 h1).2
  have hil := pl_itoaF i.imm
  unfold lineB
  refine ⟨?_, ?_⟩
  · simp only [List.mem_append, not_or]
    refine ⟨hn.2.1, r1.1, r2.1, r3.1, ?_⟩
    split
    · simp only [List.mem_cons, not_or]; exact ⟨by decide, hi⟩
    · simp
  · simp only [List.length_append]
    have : (if (shp i.op.toNat).imm ≠ 0 then 32 :: itoaF i.imm else []).length ≤ 23 := by split <;> simp <;> omega
    omega
theorem txtL_len {len : Int} : ∀ (p : List Ins), (∀ i ∈ p, May len i) → (txtL p).length ≤ 37 * p.length
  | [], _ => by simp [txtL]
  | i :: p, h => by
    have h1 := (line_facts (h i (by simp)).may256 (h i (by simp)).i0 (h i (by simp)).i1).2
    have h2 := txtL_len p (fun j hj => h j (by simp [hj]))
    have : txtL (i :: p) = (lineB i ++ [10]) ++ txtL p := by simp [txtL]
    rw [this]
    simp only [List.length_append, List.length_cons, List.length_nil]
    omega
/-! ## Stretches -/
/-- An event ahead of stretches. -/
def joinS (e : Ev) : List Str → List Str
  | [] => [⟨e, 1⟩]
  | x :: xs => if e.kind ≠ 3 ∧ x.ev = e then ⟨e, x.n + 1⟩ :: xs else ⟨e, 1⟩ :: x :: xs
def strF : List Ev → List Str
  | [] => []
  | e :: r => if mayE e then joinS e (strF r) else []
theorem strF_cons {e : Ev} (h : mayE e = true) (r : List Ev) : strF (e :: r) = joinS e (strF r) := if_pos h
theorem strF_bad {e : Ev} {r : List Ev} (h : mayE e = false) : strF (e :: r) = [] := if_neg (by rw [h]; decide)
theorem joinS_same {e : Ev} {x : Str} (xs : List Str) (hk : e.kind ≠ 3) (hx : x.ev = e) : joinS e (x :: xs) = ⟨e, x.n + 1⟩ :: xs := if_pos ⟨hk, hx⟩
theorem joinS_other {e : Ev} {x : Str} (xs : List Str) (h : ¬ (e.kind ≠ 3 ∧ x.ev = e)) : joinS e (x :: xs) = ⟨e, 1⟩ :: x :: xs := if_neg h
theorem joinS_three {e : Ev} (hk : e.kind = 3) (l : List Str) : joinS e l = ⟨e, 1⟩ :: l := by
  cases l with
  | nil => rfl
  | cons x xs => exact joinS_other xs (fun h => h.1 hk)
theorem joinS_append (e : Ev) {l : List Str} (h : l ≠ []) (m : List Str) : joinS e (l ++ m) = joinS e l ++ m := by
  cases l with
  | nil => exact absurd rfl h
  | cons x xs =>
    by_cases hc : e.kind ≠ 3 ∧ x.ev = e
    · rw [List.cons_append, joinS_same _ hc.1 hc.2, joinS_same _ hc.1 hc.2]; rfl
    · rw [List.cons_append, joinS_other _ hc, joinS_other _ hc]; rfl
theorem strF_ge : ∀ (r : List Ev), ∀ x ∈ strF r, 1 ≤ x.n
  | [], x, h => by cases h
  | e :: r, x, h => by
    have ih := strF_ge r
    cases hm : mayE e with
    | false => rw [strF_bad hm] at h; cases h
    | true =>
      rw [strF_cons hm] at h
      cases hs : strF r with
      | nil => rw [hs] at h; simp [joinS] at h; subst h; exact Int.le_refl _
      | cons y ys =>
        rw [hs] at h ih
        by_cases hc : e.kind ≠ 3 ∧ y.ev = e
        · rw [joinS_same _ hc.1 hc.2] at h
          rcases List.mem_cons.1 h with rfl | h
          · have := ih y (by simp); simp only; omega
          · exact ih x (by simp [h])
        · rw [joinS_other _ hc] at h
          rcases List.mem_cons.1 h with rfl | h
          · exact Int.le_refl _
          · exact ih x h
theorem strF_head {e : Ev} {r : List Ev} (h : mayE e = true) : ∃ n xs, strF (e :: r) = ⟨e, n⟩ :: xs := by
  rw [strF_cons h]
  cases strF r with
  | nil => exact ⟨_, _, rfl⟩
  | cons x xs =>
    by_cases hc : e.kind ≠ 3 ∧ x.ev = e
    · rw [joinS_same _ hc.1 hc.2]; exact ⟨_, _, rfl⟩
    · rw [joinS_other _ hc]; exact ⟨_, _, rfl⟩
/-- A row of one event ends where it does not come next. -/
theorem strF_run {e : Ev} (h : mayE e = true) (hk : e.kind ≠ 3) {r : List Ev} (hr : r = [] ∨ ∃ x xs, r = x :: xs ∧ x ≠ e) : ∀ n : Nat, strF (List.replicate (n + 1) e ++ r) = ⟨e, n + 1⟩ :: strF r
  | 0 => by
    rw [List.replicate_succ, List.replicate_zero, List.cons_append, List.nil_append, strF_cons h]
    rcases hr with rfl | ⟨x, xs, rfl, hx⟩
    · rfl
    · cases hm : mayE x with
      | false => rw [strF_bad hm]; rfl
      | true =>
        obtain ⟨m, ys, hy⟩ := strF_head (r := xs) hm
        rw [hy, joinS_other _ (fun hc => hx hc.2)]
        rfl
  | n + 1 => by
    rw [List.replicate_succ, List.cons_append, strF_cons h, strF_run h hk hr n, joinS_same _ hk rfl]
    norm_cast
theorem strF_one {e : Ev} (h : mayE e = true) (hk : e.kind = 3) (r : List Ev) : strF (e :: r) = ⟨e, 1⟩ :: strF r := by
  rw [strF_cons h, joinS_three hk]
/-- Rows that do not go on into each other. -/
theorem strF_append {b : List Ev} : ∀ (a : List Ev), (∀ e ∈ a, mayE e = true) → (∀ e x, a.getLast? = some e → b.head? = some x → e.kind ≠ 3 → x ≠ e) → strF (a ++ b) = strF a ++ strF b
  | [], _, _ => rfl
  | [e], h, hb => by
    have he := h e (by simp)
    by_cases hk : e.kind = 3
    · rw [List.cons_append, List.nil_append, strF_one he hk b, strF_one he hk []]; rfl
    · have h1 := strF_run he hk (r := b) (by
        cases b with
        | nil => exact .inl rfl
        | cons x xs => exact .inr ⟨x, xs, rfl, hb e x rfl rfl hk⟩) 0
      have h2 := strF_run he hk (r := []) (.inl rfl) 0
      simp only [List.replicate_succ, List.replicate_zero, List.cons_append, List.nil_append] at h1 h2
      rw [List.cons_append, List.nil_append, h1, h2]
      rfl
  | e :: x :: a, h, hb => by
    have he := h e (by simp)
    have hx := h x (by simp)
    have ih := strF_append (b := b) (x :: a) (fun y hy => h y (by rw [List.mem_cons]; exact .inr hy)) (fun y z hy hz hk => hb y z (by rw [List.getLast?_cons_cons]; exact hy) hz hk)
    obtain ⟨m, ys, hy⟩ := strF_head (r := a) hx
    rw [List.cons_append, strF_cons he, strF_cons he, ih, joinS_append e (by rw [hy]; simp)]
theorem strF_snoc_same {e : Ev} (hk : e.kind ≠ 3) (he : mayE e = true) {x : Str} (hxe : x.ev = e) : ∀ (a : List Ev) (xs : List Str), (∀ y ∈ a, mayE y = true) → strF a = xs ++ [x] → strF (a ++ [e]) = xs ++ [⟨e, x.n + 1⟩]
  | [], xs, _, h => by simp [strF] at h
  | y :: a, xs, ha, h => by
    have hy := ha y (by simp)
    have ha' := fun z hz => ha z (List.mem_cons_of_mem _ hz)
    rw [strF_cons hy] at h
    rw [List.cons_append, strF_cons hy]
    cases hs : strF a with
    | nil =>
      have han : a = [] := by
        cases a with
        | nil => rfl
        | cons z zs => obtain ⟨m, ys, h2⟩ := strF_head (r := zs) (ha' z (by simp)); rw [h2] at hs; cases hs
      subst han
      rw [hs] at h
      have hxs : xs = [] := by
        cases xs with
        | nil => rfl
        | cons a b => simp [joinS] at h
      subst hxs
      simp only [joinS, List.nil_append, List.cons.injEq, and_true] at h
      subst h
      simp only at hxe
      subst hxe
      rw [List.nil_append, strF_cons he]
      show joinS y [⟨y, 1⟩] = _
      rw [joinS_same _ hk rfl]
      rfl
    | cons z zs =>
      rw [hs] at h
      by_cases hc : y.kind ≠ 3 ∧ z.ev = y
      · rw [joinS_same _ hc.1 hc.2] at h
        cases xs with
        | nil =>
          simp only [List.nil_append, List.cons.injEq] at h
          obtain ⟨rfl, rfl⟩ := h
          simp only at hxe
          subst hxe
          have := strF_snoc_same hk he (x := z) hc.2 a [] ha' (by rw [hs]; rfl)
          rw [this, List.nil_append, joinS_same _ hk rfl]
          rfl
        | cons w ws =>
          simp only [List.cons_append, List.cons.injEq] at h
          obtain ⟨rfl, rfl⟩ := h
          have := strF_snoc_same hk he hxe a (z :: ws) ha' (by rw [hs]; rfl)
          rw [this, List.cons_append, joinS_same _ hc.1 hc.2]
          rfl
      · rw [joinS_other _ hc] at h
        cases xs with
        | nil => simp at h
        | cons w ws =>
          simp only [List.cons_append, List.cons.injEq] at h
          obtain ⟨rfl, h⟩ := h
          have := strF_snoc_same hk he hxe a ws ha' (by rw [hs]; exact h)
          rw [this]
          cases ws with
          | nil =>
            simp only [List.nil_append, List.cons.injEq] at h
            obtain ⟨rfl, rfl⟩ := h
            rw [List.nil_append, joinS_other _ (fun h2 => hc ⟨h2.1, by rw [hxe]; exact h2.2⟩)]
            rfl
          | cons v vs =>
            simp only [List.cons_append, List.cons.injEq] at h
            obtain ⟨rfl, rfl⟩ := h
            rw [List.cons_append, joinS_other _ hc]
            rfl
theorem strF_snoc_other {a : List Ev} {e : Ev} (he : mayE e = true) (ha : ∀ y ∈ a, mayE y = true) (h : ∀ x, (strF a).getLast? = some x → e.kind ≠ 3 → x.ev ≠ e) : strF (a ++ [e]) = strF a ++ [⟨e, 1⟩] := by
  have hl : ∀ (l : List Ev), (∀ y ∈ l, mayE y = true) → ∀ y, l.getLast? = some y → ∃ x, (strF l).getLast? = some x ∧ x.ev = y := by
    intro l
    induction l with
    | nil => intro _ y h; cases h
    | cons z l ih =>
      intro hm y hy
      have hz := hm z (by simp)
      rw [strF_cons hz]
      cases l with
      | nil =>
        simp at hy
        subst hy
        exact ⟨_, rfl, rfl⟩
      | cons u l =>
        rw [List.getLast?_cons_cons] at hy
        obtain ⟨x, hx, hxy⟩ := ih (fun v hv => hm v (List.mem_cons_of_mem _ hv)) y hy
        obtain ⟨m, ys, hs⟩ := strF_head (r := l) (hm u (by simp))
        rw [hs] at hx ⊢
        by_cases hc : z.kind ≠ 3 ∧ (⟨u, m⟩ : Str).ev = z
        · rw [joinS_same _ hc.1 hc.2]
          cases ys with
          | nil =>
            simp at hx
            subst hx
            exact ⟨_, rfl, by rw [← hxy]; exact hc.2.symm⟩
          | cons v vs =>
            rw [List.getLast?_cons_cons] at hx ⊢
            exact ⟨x, hx, hxy⟩
        · rw [joinS_other _ hc, List.getLast?_cons_cons]
          exact ⟨x, hx, hxy⟩
  rw [strF_append a ha, strF_cons he]
  · rfl
  · intro u y hu hy hk hyu
    simp at hy
    subst hy
    obtain ⟨x, hx, hxu⟩ := hl a ha u hu
    exact h x hx (by rw [hyu]; exact hk) (by rw [hxu, hyu])
theorem strF_may : ∀ (l : List Ev), l.length ≤ 8192 → ∀ x ∈ strF l, mayS x = true ∧ (x.n : Int) ≤ l.length
  | [], _, x, hx => by cases hx
  | e :: r, hl, x, hx => by
    simp only [List.length_cons] at hl
    have ih := strF_may r (by omega)
    have one : mayE e = true → mayS ⟨e, 1⟩ = true := fun he => by
      rw [mayS_iff]
      exact ⟨he, by simp only; omega, by simp only; omega, fun _ => Int.le_refl _⟩
    cases he : mayE e with
    | false => rw [strF_bad he] at hx; cases hx
    | true =>
      rw [strF_cons he] at hx
      cases hs : strF r with
      | nil =>
        rw [hs] at hx
        simp only [joinS, List.mem_cons, List.not_mem_nil, or_false] at hx
        subst hx
        exact ⟨one he, by simp only [List.length_cons]; omega⟩
      | cons y ys =>
        rw [hs] at hx ih
        by_cases hc : e.kind ≠ 3 ∧ y.ev = e
        · rw [joinS_same _ hc.1 hc.2] at hx
          rcases List.mem_cons.1 hx with rfl | hx
          · have h1 := ih y (by simp)
            rw [mayS_iff] at h1 ⊢
            refine ⟨⟨he, by simp only; omega, by simp only; omega, fun h3 => absurd h3 hc.1⟩, by simp only [List.length_cons]; omega⟩
          · have h1 := ih x (by simp [hx])
            exact ⟨h1.1, by simp only [List.length_cons]; omega⟩
        · rw [joinS_other _ hc] at hx
          rcases List.mem_cons.1 hx with rfl | hx
          · exact ⟨one he, by simp only [List.length_cons]; omega⟩
          · have h1 := ih x hx
            exact ⟨h1.1, by simp only [List.length_cons]; omega⟩
end Go.Proofs.YteblhklclcjonaaGreatDoor
