/- Code: instructions and their texts, as plain functions: every text is the one instruction that has it, or none. No condition. -/
import Derived.Lib.AtoiAll
import Derived.Lib.ParseIntB
import Derived.Lib.ItoaNum
import Derived.Lib.IndexMore
import Derived.Lib.Strings
import Derived.Lib.Join
namespace Go.Proofs.YteblhklclcjonaaGreatDoor
open Go.Lib
set_option linter.unusedVariables false
set_option linter.all false
set_option maxRecDepth 20000

/-! ## Cutting -/
def cutAt (b : UInt8) : List UInt8 → List UInt8 × List UInt8 × Bool
  | [] => ([], [], false)
  | c :: r => if c = b then ([], r, true) else (c :: (cutAt b r).1, (cutAt b r).2.1, (cutAt b r).2.2)
theorem cut_eq (b : UInt8) : ∀ s : List UInt8, Lib.cut s [b] = cutAt b s
  | [] => rfl
  | c :: r => by
    have ih := cut_eq b r
    unfold Lib.cut at ih ⊢
    unfold index cutAt
    by_cases h : c = b
    · subst h
      simp
    · rw [if_neg h]
      have hbc : (b == c) = false := by simpa using fun e => h e.symm
      have hp : [b].isPrefixOf (c :: r) = false := by simp [List.isPrefixOf, hbc]
      rw [hp]
      simp only [Bool.false_eq_true, if_false]
      have hge := index_ge r [b]
      by_cases hn : index r [b] = -1
      · rw [hn] at ih ⊢
        simp at ih ⊢
        rw [← ih]
        simp
      · have h0 : 0 ≤ index r [b] := by omega
        have hb : (index r [b] == -1) = false := by simpa using hn
        rw [if_pos h0] at ih
        rw [hb]
        simp only [Bool.false_eq_true, if_false]
        rw [if_pos (by omega)]
        have e : (index r [b] + 1).toNat = (index r [b]).toNat + 1 := by omega
        rw [← ih, e]
        simp [Nat.add_right_comm]
theorem cut_at (b : UInt8) (w r : List UInt8) (h : b ∉ w) : cutAt b (w ++ b :: r) = (w, r, true) := by
  induction w with
  | nil => simp [cutAt]
  | cons c w ih =>
    simp only [List.mem_cons, not_or] at h
    have hc : ¬ c = b := fun e => h.1 e.symm
    rw [List.cons_append]
    unfold cutAt
    rw [if_neg hc, ih h.2]
theorem cut_none (b : UInt8) (w : List UInt8) (h : b ∉ w) : cutAt b w = (w, [], false) := by
  induction w with
  | nil => simp [cutAt]
  | cons c w ih =>
    simp only [List.mem_cons, not_or] at h
    have hc : ¬ c = b := fun e => h.1 e.symm
    unfold cutAt
    rw [if_neg hc, ih h.2]
theorem cut_len (b : UInt8) : ∀ s : List UInt8, (cutAt b s).1.length + (cutAt b s).2.1.length + (if (cutAt b s).2.2 then 1 else 0) = s.length
  | [] => rfl
  | c :: r => by
    have ih := cut_len b r
    unfold cutAt
    by_cases h : c = b
    · rw [if_pos h]; simp
    · rw [if_neg h]
      simp only [List.length_cons]
      omega
/-! ## Numerals -/
/-- The digits, with fuel. -/
def digF : Nat → Nat → List UInt8
  | 0, u => [UInt8.ofNat (48 + u)]
  | f + 1, u => if u < 10 then [UInt8.ofNat (48 + u)] else digF f (u / 10) ++ [UInt8.ofNat (48 + u % 10)]
theorem digF_eq : ∀ (f u : Nat), u < 10 ^ (f + 1) → digF f u = decDigits u
  | 0, u, h => by
    rw [decDigits, dif_pos (by simpa using h)]; rfl
  | f + 1, u, h => by
    unfold digF
    rw [decDigits]
    by_cases hu : u < 10
    · rw [if_pos hu, dif_pos hu]
    · rw [if_neg hu, dif_neg hu, digF_eq f (u / 10) (by rw [Nat.pow_succ] at h; omega)]
def itoaF (n : Int) : List UInt8 := if n < 0 then 45 :: digF 20 n.natAbs else digF 20 n.toNat
theorem itoaF_eq (n : Int) (h0 : -9223372036854775808 ≤ n) (h1 : n ≤ 9223372036854775807) : itoaF n = itoa n := by
  unfold itoaF itoa
  split
  · rw [digF_eq 20 _ (by omega)]
  · rw [digF_eq 20 _ (by omega)]
theorem digF_digit (f u : Nat) (h : u < 10 ^ (f + 1)) : ∀ c ∈ digF f u, 48 ≤ c.toNat ∧ c.toNat ≤ 57 := by
  induction f generalizing u with
  | zero =>
    intro c hc
    simp [digF] at hc
    subst hc
    have : u < 10 := by simpa using h
    simp [UInt8.toNat_ofNat']
    omega
  | succ f ih =>
    intro c hc
    unfold digF at hc
    split at hc
    · simp at hc
      subst hc
      simp [UInt8.toNat_ofNat']
      omega
    · rcases List.mem_append.1 hc with hc | hc
      · exact ih (u / 10) (by rw [Nat.pow_succ] at h; omega) c hc
      · simp at hc
        subst hc
        simp [UInt8.toNat_ofNat']
        omega
theorem itoaF_mem (n : Int) (h0 : -9223372036854775808 ≤ n) (h1 : n ≤ 9223372036854775807) : ∀ c ∈ itoaF n, c.toNat = 45 ∨ 48 ≤ c.toNat ∧ c.toNat ≤ 57 := by
  intro c hc
  unfold itoaF at hc
  split at hc
  · rcases List.mem_cons.1 hc with rfl | hc
    · exact .inl rfl
    · exact .inr (digF_digit 20 _ (by omega) c hc)
  · exact .inr (digF_digit 20 _ (by omega) c hc)
theorem itoaF_blank (n : Int) (h0 : -9223372036854775808 ≤ n) (h1 : n ≤ 9223372036854775807) : (32 : UInt8) ∉ itoaF n ∧ (10 : UInt8) ∉ itoaF n := by
  constructor <;> intro h <;> have := itoaF_mem n h0 h1 _ h <;> revert this <;> decide
theorem parseM_append (M : Nat) : ∀ (l : List UInt8) (acc x : Nat) (r : List UInt8), parseUintM M acc l = .ok x → parseUintM M acc (l ++ r) = parseUintM M x r
  | [], acc, x, r, h => by simp only [parseUintM] at h; injection h with h; subst h; rfl
  | c :: l, acc, x, r, h => by
    rw [List.cons_append]
    unfold parseUintM at h
    conv => lhs; unfold parseUintM
    split at h
    · rename_i hc
      rw [if_pos hc]
      split at h
      · cases h
      · rename_i h1
        rw [if_neg h1]
        split at h
        · cases h
        · rename_i h2
          rw [if_neg h2]
          exact parseM_append M l _ x r h
    · cases h
theorem parseM_digit (M acc d : Nat) (hd : d < 10) (hM : M ≤ 18446744073709551615) (h : acc * 10 + d ≤ M) : parseUintM M acc [UInt8.ofNat (48 + d)] = .ok (acc * 10 + d) := by
  have e : (UInt8.ofNat (48 + d)).toNat = 48 + d := by simp [UInt8.toNat_ofNat']; omega
  unfold parseUintM
  rw [e, if_pos (by omega), if_neg (by omega), if_neg (by omega), show 48 + d - 48 = d by omega]
  rfl
theorem parseM_digF (M : Nat) (hM : M ≤ 18446744073709551615) : ∀ (f u : Nat), u < 10 ^ (f + 1) → u ≤ M → parseUintM M 0 (digF f u) = .ok u
  | 0, u, h, hu => by
    have := parseM_digit M 0 u (by simpa using h) hM (by omega)
    simpa [digF] using this
  | f + 1, u, h, hu => by
    unfold digF
    split
    · have := parseM_digit M 0 u (by omega) hM (by omega)
      simpa using this
    · rw [parseM_append M _ 0 (u / 10) _ (parseM_digF M hM f (u / 10) (by rw [Nat.pow_succ] at h; omega) (by omega)), parseM_digit M (u / 10) (u % 10) (by omega) hM (by omega)]
      congr 1
      omega
theorem digF_ne (f u : Nat) : digF f u ≠ [] := by
  cases f with
  | zero => simp [digF]
  | succ f => unfold digF; split <;> simp
theorem pow63 : 2 ^ (64 - 1) = 9223372036854775808 := by decide
theorem parseIntB_cons (B : Nat) (c : UInt8) (r : List UInt8) : parseIntB B (c :: r) = match parseUintB B (if c.toNat = 43 ∨ c.toNat = 45 then r else c :: r) with
    | .syntax => .syntax
    | .range => .range
    | .ok u => if ¬ c.toNat = 45 ∧ 2 ^ (B - 1) ≤ u then .range else if c.toNat = 45 ∧ 2 ^ (B - 1) < u then .range else .ok (if c.toNat = 45 then -(u : Int) else u) := rfl
theorem parse_itoaF (n : Int) (h0 : -9223372036854775808 ≤ n) (h1 : n ≤ 9223372036854775807) : parseIntB 64 (itoaF n) = .ok n := by
  have key : ∀ u : Nat, u ≤ 9223372036854775808 → parseUintB 64 (digF 20 u) = .ok u := fun u hu => by
    unfold parseUintB
    rw [if_neg (digF_ne _ _)]
    exact parseM_digF (2 ^ 64 - 1) (by decide) 20 u (by omega) (by omega)
  unfold itoaF
  by_cases hn : n < 0
  · rw [if_pos hn]
    rw [parseIntB_cons, if_pos (.inr rfl), key n.natAbs (by omega)]
    show (if ¬ (45 : UInt8).toNat = 45 ∧ 2 ^ (64 - 1) ≤ n.natAbs then NumEnd.range else if (45 : UInt8).toNat = 45 ∧ 2 ^ (64 - 1) < n.natAbs then NumEnd.range else .ok (if (45 : UInt8).toNat = 45 then -(n.natAbs : Int) else n.natAbs)) = _
    rw [if_neg (fun h => h.1 rfl), if_neg (fun h => by have := h.2; rw [pow63] at this; omega), if_pos (show (45 : UInt8).toNat = 45 from rfl)]
    congr 1
    omega
  · rw [if_neg hn]
    obtain ⟨c, r, hcr⟩ : ∃ c r, digF 20 n.toNat = c :: r := by
      cases h : digF 20 n.toNat with
      | nil => exact absurd h (digF_ne _ _)
      | cons c r => exact ⟨c, r, rfl⟩
    have hc := digF_digit 20 n.toNat (by omega) c (by rw [hcr]; simp)
    have k := key n.toNat (by omega)
    rw [hcr] at k ⊢
    rw [parseIntB_cons, if_neg (show ¬ (c.toNat = 43 ∨ c.toNat = 45) by omega), k]
    show (if ¬ c.toNat = 45 ∧ 2 ^ (64 - 1) ≤ n.toNat then NumEnd.range else if c.toNat = 45 ∧ 2 ^ (64 - 1) < n.toNat then NumEnd.range else .ok (if c.toNat = 45 then -(n.toNat : Int) else n.toNat)) = _
    rw [if_neg (fun h => by have := h.2; rw [pow63] at this; omega), if_neg (fun h => by omega), if_neg (by omega)]
    congr 1
    omega
/-! ## Instructions -/
structure Ins where
  op : Int
  d : Int
  a : Int
  b : Int
  imm : Int
  deriving DecidableEq
def nmB : Nat → List UInt8
  | 0 => [101, 110, 100]
  | 1 => [115, 101, 116]
  | 2 => [109, 111, 118, 101]
  | 3 => [97, 100, 100]
  | 4 => [115, 117, 98]
  | 5 => [106, 117, 109, 112]
  | 6 => [122, 101, 114, 111]
  | 7 => [99, 97, 108, 108]
  | 8 => [110, 111, 116, 101]
  | _ => []
structure Shp where
  d : Bool
  a : Bool
  b : Bool
  imm : Nat
def shp : Nat → Shp
  | 0 => ⟨false, false, false, 0⟩
  | 1 => ⟨true, false, false, 1⟩
  | 2 => ⟨true, true, false, 0⟩
  | 3 => ⟨true, true, true, 0⟩
  | 4 => ⟨true, true, true, 0⟩
  | 5 => ⟨false, false, false, 2⟩
  | 6 => ⟨false, true, false, 2⟩
  | 7 => ⟨false, false, false, 3⟩
  | 8 => ⟨false, true, false, 0⟩
  | _ => ⟨false, false, false, 0⟩
def regOk (n : Bool) (x : Int) : Bool := if n then decide (0 ≤ x) && decide (x ≤ 7) else decide (x = 0)
def immOk (k : Nat) (v len : Int) : Bool := match k with
  | 0 => decide (v = 0)
  | 1 => true
  | 2 => decide (0 ≤ v) && decide (v ≤ len)
  | _ => decide (0 ≤ v) && decide (v ≤ 255)
def opOk (o : Int) : Bool := decide (0 ≤ o) && decide (o ≤ 8)
def mayI (i : Ins) (len : Int) : Bool := opOk i.op && (regOk (shp i.op.toNat).d i.d && (regOk (shp i.op.toNat).a i.a && regOk (shp i.op.toNat).b i.b)) && immOk (shp i.op.toNat).imm i.imm len
def regB (n : Bool) (x : Int) : List UInt8 := if n then 32 :: 114 :: itoaF x else []
def lineB (i : Ins) : List UInt8 := nmB i.op.toNat ++ (regB (shp i.op.toNat).d i.d ++ (regB (shp i.op.toNat).a i.a ++ (regB (shp i.op.toNat).b i.b ++ if (shp i.op.toNat).imm ≠ 0 then 32 :: itoaF i.imm else [])))
/-- The number of a word; -1: none. -/
def opAt (w : List UInt8) : Int := match (List.range 9).find? (fun k => nmB k == w) with
  | some k => k
  | none => -1
def atoiV (l : List UInt8) : Int := match atoiAll l with
  | .ok v => v
  | .syntax => 0
  | .range => atoiSat l
def parseV (l : List UInt8) : Int := match parseIntB 64 l with
  | .ok v => v
  | .syntax => 0
  | .range => intSat 64 l
/-- A register's number, and what is behind it. -/
def regP (n : Bool) (rest : List UInt8) : Int × List UInt8 := if n then (atoiV (trimPrefix (cutAt 32 rest).1 [114]), (cutAt 32 rest).2.1) else (0, rest)
def immP (k : Nat) (rest : List UInt8) : Int := if k ≠ 0 then parseV (cutAt 32 rest).1 else 0
/-- What the program takes a text for, where its first word is the op's of a number. -/
def insP (k : Nat) (rest : List UInt8) : Ins :=
  let x := regP (shp k).d rest
  let y := regP (shp k).a x.2
  let z := regP (shp k).b y.2
  ⟨k, x.1, y.1, z.1, immP (shp k).imm z.2⟩
def parP (s : List UInt8) : Option Ins :=
  let k := opAt (cutAt 32 s).1
  if opOk k = true ∧ mayI (insP k.toNat (cutAt 32 s).2.1) 256 = true ∧ lineB (insP k.toNat (cutAt 32 s).2.1) = s then some (insP k.toNat (cutAt 32 s).2.1) else none
theorem nm_blank (k : Nat) : (32 : UInt8) ∉ nmB k ∧ (10 : UInt8) ∉ nmB k ∧ (nmB k).length ≤ 4 := by
  unfold nmB
  split <;> decide
theorem opAt_nm : ∀ k, k < 9 → opAt (nmB k) = k := by decide
theorem opAt_range (w : List UInt8) : -1 ≤ opAt w ∧ opAt w ≤ 8 := by
  unfold opAt
  split
  · rename_i k h
    have := List.mem_range.1 (List.mem_of_find?_eq_some h)
    omega
  · omega
theorem opAt_some {w : List UInt8} (h : 0 ≤ opAt w) : nmB (opAt w).toNat = w := by
  unfold opAt at h ⊢
  split
  · rename_i k hk
    have := List.find?_some hk
    simpa using this
  · rename_i hk
    rw [hk] at h
    simp at h
theorem reg_back : ∀ x : Nat, x < 8 → atoiV (trimPrefix (114 :: itoaF x) [114]) = x := by decide
/-- A line's tail begins with a blank, or is empty. -/
def Tl (l : List UInt8) : Prop := l = [] ∨ ∃ r, l = 32 :: r
theorem cut_tl {w l : List UInt8} (h : (32 : UInt8) ∉ w) (hl : Tl l) : cutAt 32 (w ++ l) = (w, l.tail, !l.isEmpty) := by
  rcases hl with rfl | ⟨r, rfl⟩
  · rw [List.append_nil, cut_none 32 w h]; rfl
  · rw [cut_at 32 w r h]; rfl
theorem Tl.reg (n : Bool) (x : Int) {l : List UInt8} (h : Tl l) : Tl (regB n x ++ l) := by
  unfold regB
  split
  · exact .inr ⟨_, rfl⟩
  · exact h
/-- Read behind its blank, a register is its number, and what is behind it is there. -/
theorem regP_back {n : Bool} {x : Int} {l : List UInt8} (h : regOk n x = true) (hl : Tl l) : regP n (regB n x ++ l).tail = (x, l.tail) := by
  unfold regOk at h
  unfold regP regB
  cases n with
  | false =>
    simp at h
    simp [h]
  | true =>
    simp at h
    obtain ⟨k, rfl⟩ : ∃ k : Nat, x = k := ⟨x.toNat, by omega⟩
    have hb : (32 : UInt8) ∉ (114 :: itoaF k) := by
      simp only [List.mem_cons, not_or]
      exact ⟨by decide, (itoaF_blank k (by omega) (by omega)).1⟩
    have := cut_tl hb hl
    simp only [if_true, List.cons_append, List.tail_cons] at this ⊢
    rw [this]
    simp only [reg_back k (by omega)]
theorem mayI_parts {i : Ins} {len : Int} (h : mayI i len = true) : (0 ≤ i.op ∧ i.op ≤ 8) ∧ regOk (shp i.op.toNat).d i.d = true ∧ regOk (shp i.op.toNat).a i.a = true ∧ regOk (shp i.op.toNat).b i.b = true ∧ immOk (shp i.op.toNat).imm i.imm len = true := by
  unfold mayI opOk at h
  simp only [Bool.and_eq_true, decide_eq_true_eq] at h
  exact ⟨h.1.1, h.1.2.1, h.1.2.2.1, h.1.2.2.2, h.2⟩
/-- Every line is read as its instruction. -/
theorem parP_back {i : Ins} (h : mayI i 256 = true) (h0 : -9223372036854775808 ≤ i.imm) (h1 : i.imm ≤ 9223372036854775807) : parP (lineB i) = some i := by
  obtain ⟨⟨o0, o1⟩, hd, ha, hb, hi⟩ := mayI_parts h
  obtain ⟨o, ho⟩ : ∃ o : Nat, i.op = o := ⟨i.op.toNat, by omega⟩
  have hoN : i.op.toNat = o := by omega
  have hT : Tl (if (shp o).imm ≠ 0 then 32 :: itoaF i.imm else []) := by
    split
    · exact .inr ⟨_, rfl⟩
    · exact .inl rfl
  have hl : lineB i = nmB o ++ (regB (shp o).d i.d ++ (regB (shp o).a i.a ++ (regB (shp o).b i.b ++ if (shp o).imm ≠ 0 then 32 :: itoaF i.imm else []))) := by unfold lineB; rw [hoN]
  rw [hoN] at hd ha hb hi
  have hc := cut_tl (nm_blank o).1 (Tl.reg (shp o).d i.d (Tl.reg (shp o).a i.a (Tl.reg (shp o).b i.b hT)))
  rw [← hl] at hc
  have hI : insP o (cutAt 32 (lineB i)).2.1 = i := by
    unfold insP
    rw [hc]
    simp only
    rw [regP_back hd (Tl.reg _ _ (Tl.reg _ _ hT))]
    simp only
    rw [regP_back ha (Tl.reg _ _ hT)]
    simp only
    rw [regP_back hb hT]
    simp only
    have him : immP (shp o).imm (if (shp o).imm ≠ 0 then 32 :: itoaF i.imm else []).tail = i.imm := by
      unfold immP
      by_cases hz : (shp o).imm = 0
      · rw [hz] at hi
        simp [immOk] at hi
        rw [hz, hi]; rfl
      · rw [if_pos hz, if_pos hz, List.tail_cons, cut_none 32 _ (itoaF_blank i.imm h0 h1).1]
        unfold parseV
        rw [parse_itoaF i.imm h0 h1]
    rw [him, ← ho]
  have hk : opAt (cutAt 32 (lineB i)).1 = o := by rw [hc]; exact opAt_nm o (by omega)
  unfold parP
  simp only [hk, Int.toNat_natCast, hI]
  rw [if_pos ⟨by unfold opOk; simp; omega, h, trivial⟩]
theorem parP_some {s : List UInt8} {i : Ins} (h : parP s = some i) : mayI i 256 = true ∧ lineB i = s := by
  unfold parP at h
  simp only at h
  split at h
  · rename_i hc
    injection h with h
    subst h
    exact ⟨hc.2.1, hc.2.2⟩
  · cases h
end Go.Proofs.YteblhklclcjonaaGreatDoor
