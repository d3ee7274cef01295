/- Script: stretches and their lines, words, a job's line: plain functions, and that what is written is read. No condition. -/
import Derived.Test.YteblhklclcjonaaGreatDoorCd2
namespace Go.Proofs.YteblhklclcjonaaGreatDoor
open Go.Lib
set_option linter.unusedVariables false
set_option linter.all false
set_option maxRecDepth 20000

/-! ## Events, stretches -/
structure Ev where
  kind : Int
  num : Int
  deriving DecidableEq
structure Str where
  ev : Ev
  n : Int
  deriving DecidableEq
def mayE (e : Ev) : Bool := decide ((e.kind = 1 ∨ e.kind = 2) ∧ e.num = 0 ∨ e.kind = 3 ∧ 0 ≤ e.num ∧ e.num ≤ 7)
def mayS (x : Str) : Bool := mayE x.ev && decide (1 ≤ x.n ∧ x.n ≤ 8192 ∧ (x.ev.kind = 3 → x.n ≤ 1))
def lineT (x : Str) : List UInt8 := if x.ev.kind = 1 then [114, 117, 110, 32] ++ itoaF x.n else if x.ev.kind = 2 then [116, 105, 99, 107, 32] ++ itoaF x.n else [105, 110, 116, 101, 114, 114, 117, 112, 116, 32] ++ itoaF x.ev.num
/-- Which kind a word is. -/
def kindW (w : List UInt8) : Int := if w = [114, 117, 110] then 1 else if w = [116, 105, 99, 107] then 2 else if w = [105, 110, 116, 101, 114, 114, 117, 112, 116] then 3 else 0
def strW (k n : Int) : Str := if k = 3 then ⟨⟨3, n⟩, 1⟩ else ⟨⟨k, 0⟩, n⟩
def unlX (s : List UInt8) : Str := strW (kindW (cutAt 32 s).1) (atoiV (cutAt 32 s).2.1)
def unlF (s : List UInt8) : Option Str := if mayS (unlX s) = true ∧ lineT (unlX s) = s then some (unlX s) else none
theorem parse10_M : ∀ (l : List UInt8) (acc : Nat), parseUint10 acc l = parseUintM 18446744073709551615 acc l
  | [], acc => rfl
  | c :: r, acc => by
    unfold parseUint10 parseUintM
    split
    · split
      · rfl
      · by_cases h : 18446744073709551616 ≤ acc * 10 + (c.toNat - 48)
        · rw [if_pos h, if_pos (by omega)]
        · rw [if_neg h, if_neg (by omega), parse10_M r _]
    · rfl
theorem atoi_itoaF (n : Int) (h0 : 0 ≤ n) (h1 : n ≤ 9223372036854775807) : atoiV (itoaF n) = n := by
  obtain ⟨k, rfl⟩ : ∃ k : Nat, n = k := ⟨n.toNat, by omega⟩
  have e : itoaF (k : Int) = digF 20 k := by unfold itoaF; rw [if_neg (by omega)]; rfl
  rw [e]
  have hp := parseM_digF 18446744073709551615 (Nat.le_refl _) 20 k (by omega) (by omega)
  have hd := digF_digit 20 k (by omega)
  have hne := digF_ne 20 k
  generalize digF 20 k = l at hp hd hne
  cases l with
  | nil => exact absurd rfl hne
  | cons c r =>
    have hc := hd c (by simp)
    unfold atoiV atoiAll
    simp only
    rw [if_neg (by omega)]
    unfold parseMag
    rw [if_neg (by simp), parse10_M, hp]
    simp only
    rw [if_neg (by omega), if_neg (by omega)]
    simp only
    rw [if_neg (by omega)]
theorem atoiV_bounds (l : List UInt8) : -9223372036854775808 ≤ atoiV l ∧ atoiV l ≤ 9223372036854775807 := by
  unfold atoiV
  rcases h : atoiAll l with v | _ | _
  · simp only
    cases l with
    | nil => simp [atoiAll] at h
    | cons c r =>
      unfold atoiAll at h
      simp only at h
      rcases hp : parseMag (if c.toNat = 43 ∨ c.toNat = 45 then r else c :: r) with u | _ | _
      · rw [hp] at h
        simp only at h
        split at h
        · cases h
        · split at h
          · cases h
          · simp only [NumEnd.ok.injEq] at h
            subst h
            split <;> omega
      · rw [hp] at h; simp at h
      · rw [hp] at h; simp at h
  · simp only; omega
  · simp only
    unfold atoiSat
    split <;> omega
theorem mayE_iff (e : Ev) : mayE e = true ↔ ((e.kind = 1 ∨ e.kind = 2) ∧ e.num = 0 ∨ e.kind = 3 ∧ 0 ≤ e.num ∧ e.num ≤ 7) := by
  unfold mayE; simp only [decide_eq_true_eq]
theorem mayS_iff (x : Str) : mayS x = true ↔ mayE x.ev = true ∧ 1 ≤ x.n ∧ x.n ≤ 8192 ∧ (x.ev.kind = 3 → x.n ≤ 1) := by
  unfold mayS; simp only [Bool.and_eq_true, decide_eq_true_eq]
theorem unl_back {x : Str} (h : mayS x = true) : unlF (lineT x) = some x := by
  obtain ⟨⟨k, m⟩, n⟩ := x
  have h' := h
  rw [mayS_iff, mayE_iff] at h'
  simp only at h'
  obtain ⟨he, h1, h2, h3⟩ := h'
  have hx : unlX (lineT ⟨⟨k, m⟩, n⟩) = ⟨⟨k, m⟩, n⟩ := by
    unfold unlX
    rcases he with ⟨rfl | rfl, rfl⟩ | ⟨rfl, h4, h5⟩
    · have e : lineT ⟨⟨1, 0⟩, n⟩ = [114, 117, 110] ++ 32 :: itoaF n := rfl
      rw [e, cut_at 32 _ _ (by decide)]
      simp only
      rw [atoi_itoaF n (by omega) (by omega)]
      rfl
    · have e : lineT ⟨⟨2, 0⟩, n⟩ = [116, 105, 99, 107] ++ 32 :: itoaF n := rfl
      rw [e, cut_at 32 _ _ (by decide)]
      simp only
      rw [atoi_itoaF n (by omega) (by omega)]
      rfl
    · have e : lineT ⟨⟨3, m⟩, n⟩ = [105, 110, 116, 101, 114, 114, 117, 112, 116] ++ 32 :: itoaF m := rfl
      rw [e, cut_at 32 _ _ (by decide)]
      simp only
      rw [atoi_itoaF m (by omega) (by omega)]
      have : n = 1 := by have := h3 rfl; omega
      subst this
      rfl
  unfold unlF
  rw [hx, if_pos ⟨h, rfl⟩]
theorem unl_some {s : List UInt8} {x : Str} (h : unlF s = some x) : mayS x = true ∧ lineT x = s := by
  unfold unlF at h
  split at h
  · rename_i hc
    injection h with h
    subst h
    exact hc
  · cases h
theorem mayS_num {x : Str} (h : mayS x = true) : (1 ≤ x.ev.kind ∧ x.ev.kind ≤ 3) ∧ (0 ≤ x.ev.num ∧ x.ev.num ≤ 7) ∧ 1 ≤ x.n ∧ x.n ≤ 8192 := by
  rw [mayS_iff, mayE_iff] at h
  omega
theorem lineT_facts {x : Str} (h : mayS x = true) : (10 : UInt8) ∉ lineT x ∧ (lineT x).length ≤ 32 ∧ 0 < (lineT x).length := by
  have hb := mayS_num h
  have h1 := (itoaF_blank x.n (by omega) (by omega)).2
  have h2 := (itoaF_blank x.ev.num (by omega) (by omega)).2
  have len : ∀ n : Int, (itoaF n).length ≤ 22 := fun n => by
    have dl : ∀ f u, (digF f u).length ≤ f + 1 := by
      intro f
      induction f with
      | zero => intro u; simp [digF]
      | succ f ih =>
        intro u
        unfold digF
        split
        · simp
        · have := ih (u / 10)
          simp; omega
    unfold itoaF
    split
    · have := dl 20 n.natAbs; simp; omega
    · have := dl 20 n.toNat; omega
  have l1 := len x.n
  have l2 := len x.ev.num
  unfold lineT
  split
  · refine ⟨?_, by simp; omega, by simp⟩
    simp only [List.mem_append, not_or]
    exact ⟨by decide, h1⟩
  · split
    · refine ⟨?_, by simp; omega, by simp⟩
      simp only [List.mem_append, not_or]
      exact ⟨by decide, h1⟩
    · refine ⟨?_, by simp; omega, by simp⟩
      simp only [List.mem_append, not_or]
      exact ⟨by decide, h2⟩

/-! ## Words -/
def okB (c : UInt8) : Bool := decide (33 ≤ c.toNat ∧ c.toNat ≤ 126 ∧ c ≠ 37)
def hexC (n : Nat) : UInt8 := if n < 10 then UInt8.ofNat (48 + n) else UInt8.ofNat (55 + n)
def chB (c : UInt8) : List UInt8 := if okB c then [c] else [37, hexC (c.toNat / 16), hexC (c.toNat % 16)]
def wordB (b : List UInt8) : List UInt8 := if b = [] then [37] else b.flatMap chB
/-- A digit to the base 16, of either case; 16: none. -/
def hexV (c : UInt8) : Nat := if 48 ≤ c.toNat ∧ c.toNat ≤ 57 then c.toNat - 48 else if 97 ≤ c.toNat ∧ c.toNat ≤ 102 then c.toNat - 87 else if 65 ≤ c.toNat ∧ c.toNat ≤ 70 then c.toNat - 55 else 16
/-- ParseUint(s, 16, 8) of at most two bytes, but its error. -/
def hexP : List UInt8 → Nat
  | [a] => if hexV a < 16 then hexV a else 0
  | [a, b] => if hexV a < 16 ∧ hexV b < 16 then hexV a * 16 + hexV b else 0
  | _ => 0
def unwL : Nat → List UInt8 → List UInt8
  | 0, _ => []
  | _, [] => []
  | f + 1, c :: r => if c = 37 then UInt8.ofNat (hexP (r.take 2)) :: unwL f (r.drop 2) else c :: unwL f r
def unwX (s : List UInt8) : List UInt8 := if s = [37] then [] else unwL s.length s
def unwF (s : List UInt8) : Option (List UInt8) := if wordB (unwX s) = s then some (unwX s) else none
theorem okB_iff (c : UInt8) : okB c = true ↔ 33 ≤ c.toNat ∧ c.toNat ≤ 126 ∧ c ≠ 37 := by unfold okB; simp only [decide_eq_true_eq]
theorem hex_back : ∀ n : Fin 16, hexV (hexC n) = n := by decide
theorem hex_pair (c : UInt8) : UInt8.ofNat (hexP [hexC (c.toNat / 16), hexC (c.toNat % 16)]) = c := by
  have hc := c.toNat_lt
  have h1 := hex_back ⟨c.toNat / 16, by omega⟩
  have h2 := hex_back ⟨c.toNat % 16, by omega⟩
  simp only at h1 h2
  simp only [hexP]
  rw [h1, h2, if_pos ⟨by omega, by omega⟩, show c.toNat / 16 * 16 + c.toNat % 16 = c.toNat by omega]
  exact UInt8.ofNat_toNat
theorem chB_ok {c : UInt8} (h : okB c = true) : chB c = [c] := by unfold chB; rw [if_pos h]
theorem chB_no {c : UInt8} (h : ¬ okB c = true) : chB c = [37, hexC (c.toNat / 16), hexC (c.toNat % 16)] := by unfold chB; rw [if_neg h]
theorem chB_len (c : UInt8) : 1 ≤ (chB c).length ∧ (chB c).length ≤ 3 := by unfold chB; split <;> simp
theorem unwL_fuel : ∀ (b : List UInt8) (f : Nat), (b.flatMap chB).length ≤ f → unwL f (b.flatMap chB) = b
  | [], f, h => by cases f <;> rfl
  | c :: b, f, h => by
    have e : (c :: b).flatMap chB = chB c ++ b.flatMap chB := by simp
    rw [e] at h ⊢
    obtain ⟨g, rfl⟩ : ∃ g, f = g + 1 := ⟨f - 1, by have := chB_len c; rw [List.length_append] at h; omega⟩
    by_cases hk : okB c = true
    · rw [chB_ok hk] at h ⊢
      rw [okB_iff] at hk
      simp only [List.cons_append, List.nil_append, List.length_cons] at h ⊢
      unfold unwL
      rw [if_neg hk.2.2, unwL_fuel b g (by omega)]
    · rw [chB_no hk] at h ⊢
      simp only [List.cons_append, List.nil_append, List.length_cons] at h ⊢
      unfold unwL
      rw [if_pos rfl]
      simp only [List.take_succ_cons, List.take_zero, List.drop_succ_cons, List.drop_zero]
      rw [hex_pair, unwL_fuel b g (by omega)]
theorem flat_ne {b : List UInt8} (h : b ≠ []) : b.flatMap chB ≠ [37] := by
  cases b with
  | nil => exact absurd rfl h
  | cons c b =>
    intro hc
    have e : (c :: b).flatMap chB = chB c ++ b.flatMap chB := by simp
    rw [e] at hc
    unfold chB at hc
    split at hc
    · rename_i hk
      rw [okB_iff] at hk
      simp only [List.cons_append, List.nil_append, List.cons.injEq] at hc
      exact hk.2.2 hc.1
    · simp at hc
theorem unwX_back (b : List UInt8) : unwX (wordB b) = b := by
  unfold wordB
  by_cases hb : b = []
  · rw [if_pos hb, hb]; rfl
  · rw [if_neg hb]
    unfold unwX
    rw [if_neg (flat_ne hb), unwL_fuel b _ (Nat.le_refl _)]
theorem unw_back (b : List UInt8) : unwF (wordB b) = some b := by
  unfold unwF
  rw [unwX_back, if_pos rfl]
theorem unw_some {s b : List UInt8} (h : unwF s = some b) : wordB b = s := by
  unfold unwF at h
  split at h
  · rename_i hc
    injection h with h
    subst h
    exact hc
  · cases h
theorem hexC_not10 : ∀ n : Fin 16, hexC n ≠ 10 := by decide
theorem chB_no10 (c : UInt8) : (10 : UInt8) ∉ chB c := by
  have hc := c.toNat_lt
  unfold chB
  split
  · rename_i hk
    rw [okB_iff] at hk
    simp only [List.mem_cons, List.not_mem_nil, or_false]
    rintro rfl
    exact absurd hk.1 (by decide)
  · have h1 := hexC_not10 ⟨c.toNat / 16, by omega⟩
    have h2 := hexC_not10 ⟨c.toNat % 16, by omega⟩
    simp only at h1 h2
    simp only [List.mem_cons, List.not_mem_nil, or_false, not_or]
    exact ⟨by decide, fun e => h1 e.symm, fun e => h2 e.symm⟩
theorem flat_len : ∀ b : List UInt8, (b.flatMap chB).length ≤ 3 * b.length
  | [] => by simp
  | c :: b => by
    have := chB_len c
    have := flat_len b
    simp only [List.flatMap_cons, List.length_append, List.length_cons]
    omega
theorem wordB_facts (b : List UInt8) : (10 : UInt8) ∉ wordB b ∧ (wordB b).length ≤ 3 * b.length + 1 := by
  unfold wordB
  split
  · exact ⟨by decide, by simp⟩
  · constructor
    · intro h
      obtain ⟨c, -, hc⟩ := List.mem_flatMap.1 h
      exact chB_no10 c hc
    · have := flat_len b
      omega

/-! ## A job's line -/
def headN (v : Nat → Int) : Nat → List UInt8
  | 0 => [106, 111, 98]
  | q + 1 => headN v q ++ 32 :: itoaF (v q)
def headB (v : Nat → Int) : List UInt8 := headN v 6
/-- What is left of a line behind q words. -/
def restN (s : List UInt8) : Nat → List UInt8
  | 0 => (cutAt 32 s).2.1
  | q + 1 => (cutAt 32 (restN s q)).2.1
def numN (s : List UInt8) (q : Nat) : Int := atoiV (cutAt 32 (restN s q)).1
def tailN (v : Nat → Int) (q : Nat) : Nat → List UInt8
  | 0 => []
  | k + 1 => 32 :: itoaF (v q) ++ tailN v (q + 1) k
theorem headN_tail (v : Nat → Int) : ∀ k q, headN v (q + k) = headN v q ++ tailN v q k
  | 0, q => by simp [tailN]
  | k + 1, q => by
    rw [show q + (k + 1) = (q + 1) + k by omega, headN_tail v k (q + 1)]
    simp [headN, tailN]
theorem tailN_tl (v : Nat → Int) (q k : Nat) : Tl (tailN v q k) := by
  cases k with
  | zero => exact .inl rfl
  | succ k => exact .inr ⟨_, rfl⟩
theorem restN_back (v : Nat → Int) (hv : ∀ q, q < 6 → 0 ≤ v q ∧ v q ≤ 9223372036854775807) : ∀ q, q ≤ 6 → restN (headB v) q = (tailN v q (6 - q)).tail
  | 0, _ => by
    have e : headB v = [106, 111, 98] ++ tailN v 0 6 := by unfold headB; rw [show (6 : Nat) = 0 + 6 from rfl, headN_tail]; rfl
    unfold restN
    rw [e, cut_tl (by decide) (tailN_tl v 0 6)]
  | q + 1, h => by
    have hq := hv q (by omega)
    unfold restN
    rw [restN_back v hv q (by omega)]
    obtain ⟨m, hm⟩ : ∃ m, 6 - q = m + 1 := ⟨6 - q - 1, by omega⟩
    rw [hm, show 6 - (q + 1) = m by omega]
    have e : (tailN v q (m + 1)).tail = itoaF (v q) ++ tailN v (q + 1) m := rfl
    rw [e, cut_tl (itoaF_blank (v q) (by omega) (by omega)).1 (tailN_tl v (q + 1) m)]
theorem numN_back (v : Nat → Int) (hv : ∀ q, q < 6 → 0 ≤ v q ∧ v q ≤ 9223372036854775807) (q : Nat) (hq : q < 6) : numN (headB v) q = v q := by
  have h := hv q hq
  unfold numN
  rw [restN_back v hv q (by omega)]
  obtain ⟨m, hm⟩ : ∃ m, 6 - q = m + 1 := ⟨6 - q - 1, by omega⟩
  rw [hm]
  have e : (tailN v q (m + 1)).tail = itoaF (v q) ++ tailN v (q + 1) m := rfl
  rw [e, cut_tl (itoaF_blank (v q) (by omega) (by omega)).1 (tailN_tl v (q + 1) m)]
  exact atoi_itoaF (v q) h.1 h.2
theorem headN_no10 (v : Nat → Int) (hv : ∀ q, q < 6 → 0 ≤ v q ∧ v q ≤ 9223372036854775807) : ∀ q, q ≤ 6 → (10 : UInt8) ∉ headN v q
  | 0, _ => by unfold headN; decide
  | q + 1, h => by
    have hq := hv q (by omega)
    unfold headN
    simp only [List.mem_append, List.mem_cons, not_or]
    exact ⟨headN_no10 v hv q (by omega), by decide, (itoaF_blank (v q) (by omega) (by omega)).2⟩
theorem headN_congr {v u : Nat → Int} : ∀ q, (∀ k, k < q → v k = u k) → headN v q = headN u q
  | 0, _ => rfl
  | q + 1, h => by unfold headN; rw [headN_congr q (fun k hk => h k (by omega)), h q (by omega)]
end Go.Proofs.YteblhklclcjonaaGreatDoor
