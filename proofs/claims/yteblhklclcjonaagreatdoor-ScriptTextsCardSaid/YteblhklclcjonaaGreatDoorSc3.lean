/- Script: what Parse answers, as a plain function; what is written is read. No condition. -/
import Derived.Test.YteblhklclcjonaaGreatDoorSc2
namespace Go.Proofs.YteblhklclcjonaaGreatDoor
open Go.Lib
set_option linter.unusedVariables false
set_option linter.all false
set_option maxRecDepth 20000

/-- What was read of a text so far. -/
structure Rd where
  ps : List (List Ins)
  ts : List (List UInt8)
  es : List Ev
  at' : Nat
def again (es : List Ev) (x : Str) : Bool := decide (x.ev.kind ≠ 3 ∧ es.getLast? = some x.ev)
def evR (r : Rd) (x : Str) : Option Rd := if r.at' = 0 ∨ again r.es x = true ∨ 8192 < (r.es.length : Int) + x.n then none else some { r with es := r.es ++ List.replicate x.n.toNat x.ev, at' := 3 }
def inR (r : Rd) (i : Ins) (len : Int) : Option Rd := if r.at' ≠ 1 ∨ mayI i len = false ∨ 256 < (r.ps.getLastD []).length + 1 then none else some { r with ps := r.ps.dropLast ++ [r.ps.getLastD [] ++ [i]] }
def progW : List UInt8 := [112, 114, 111, 103, 114, 97, 109]
def textW : List UInt8 := [116, 101, 120, 116]
def prR (r : Rd) : Option Rd := if 1 < r.at' ∨ 32 ≤ r.ps.length then none else some { r with ps := r.ps ++ [[]], at' := 1 }
def txR (r : Rd) (w : List UInt8) : Option Rd := match unwF w with
  | none => none
  | some t => if r.at' ≠ 1 ∧ r.at' ≠ 2 ∨ 64 < t.length ∨ 32 ≤ r.ts.length then none else some { r with ts := r.ts ++ [t], at' := 2 }
def lineR (r : Rd) (s : List UInt8) (len : Int) : Option Rd := match unlF s with
  | some x => evR r x
  | none => match parP s with
    | some i => inR r i len
    | none => if s = progW then prR r else if (cutAt 32 s).1 = textW ∧ (cutAt 32 s).2.2 = true then txR r (cutAt 32 s).2.1 else none
/-- How many lines of instructions a text begins with. -/
def cntL : Nat → List UInt8 → Nat
  | 0, _ => 0
  | f + 1, t => if (cutAt 10 t).2.2 = true ∧ (parP (cutAt 10 t).1).isSome = true then cntL f (cutAt 10 t).2.1 + 1 else 0
def cnt (t : List UInt8) : Nat := cntL t.length t
def lenR (line rest : List UInt8) (len : Int) : Int := if line = progW then cnt rest else len
/-- The lines behind the first one: where it ends, and what has been read. -/
def parL : Nat → Nat → Int → Rd → List UInt8 → Nat × Option Rd
  | 0, n, _, r, _ => (n, none)
  | f + 1, n, len, r, t => if t = [] then (n, if r.at' = 0 then none else some r) else
    if (cutAt 10 t).2.2 = true then match lineR r (cutAt 10 t).1 (lenR (cutAt 10 t).1 (cutAt 10 t).2.1 len) with
      | none => (n, none)
      | some r' => parL f (n + 1) (lenR (cutAt 10 t).1 (cutAt 10 t).2.1 len) r' (cutAt 10 t).2.1
    else (n, none)
def lo6 : Nat → Int
  | 4 => 256
  | _ => 1
def hi6 : Nat → Int
  | 0 => 16
  | 1 => 8
  | 2 => 32
  | 3 => 100
  | 4 => 65536
  | _ => 31
/-- Numbers that a job may have. -/
def numOk (v : Nat → Int) : Bool := (List.range 6).all (fun q => decide (lo6 q ≤ v q ∧ v q ≤ hi6 q)) && decide ((v 4) % 8 = 0)
def hdOk (s : List UInt8) : Bool := numOk (numN s) && decide (headB (numN s) = s)
structure Sc where
  v : Nat → Int
  ps : List (List Ins)
  ts : List (List UInt8)
  es : List Ev
/-- What Parse answers: a script, a line, an error. -/
def parF (t : List UInt8) : Option Sc × Nat × Int :=
  if 1048576 < t.length then (none, 0, 3) else
  if hdOk (cutAt 10 t).1 = true ∧ (cutAt 10 t).2.2 = true then
    match parL (t.length + 1) 1 0 ⟨[], [], [], 0⟩ (cutAt 10 t).2.1 with
    | (n, none) => (none, n, 4)
    | (n, some r) => (some ⟨numN (cutAt 10 t).1, r.ps, r.ts, r.es⟩, 0, 0)
  else (none, 0, 4)

/-! ## Texts -/
def progsB (ps : List (List Ins)) : List UInt8 := ps.flatMap fun p => progW ++ 10 :: txtL p
def textsB (ts : List (List UInt8)) : List UInt8 := ts.flatMap fun t => textW ++ 32 :: wordB t ++ [10]
def jobB (v : Nat → Int) (ps : List (List Ins)) (ts : List (List UInt8)) : List UInt8 := headB v ++ 10 :: (progsB ps ++ textsB ts)
def strB (l : List Str) : List UInt8 := l.flatMap fun x => lineT x ++ [10]
def scrB (s : Sc) : List UInt8 := jobB s.v s.ps s.ts ++ strB (strF s.es)
def gP (p : List Ins) : Prop := p.length ≤ 256 ∧ ∀ i ∈ p, May p.length i
structure GoodS (s : Sc) : Prop where
  v : numOk s.v = true
  p0 : s.ps ≠ []
  pl : s.ps.length ≤ 32
  pg : ∀ p ∈ s.ps, gP p
  tl : s.ts.length ≤ 32
  tg : ∀ t ∈ s.ts, t.length ≤ 64
  el : s.es.length ≤ 8192
  eg : ∀ e ∈ s.es, mayE e = true

/-! ## Lines, one by one -/
theorem par_head {s : List UInt8} (h : opAt (cutAt 32 s).1 < 0) : parP s = none := by
  unfold parP
  simp only
  rw [if_neg (fun hc => by have := hc.1; unfold opOk at this; simp at this; omega)]
theorem unl_head {s : List UInt8} (h : kindW (cutAt 32 s).1 = 0) : unlF s = none := by
  unfold unlF
  rw [if_neg]
  rintro ⟨h1, _⟩
  have := mayS_num h1
  unfold unlX at this
  rw [h] at this
  unfold strW at this
  rw [if_neg (by omega)] at this
  simp only at this
  omega
theorem par_lineT {x : Str} (h : mayS x = true) : parP (lineT x) = none := by
  apply par_head
  have hb := mayS_num h
  unfold lineT
  split
  · rw [show [114, 117, 110, 32] ++ itoaF x.n = [114, 117, 110] ++ 32 :: itoaF x.n from rfl, cut_at 32 _ _ (by decide)]; show opAt [114, 117, 110] < 0; decide
  · split
    · rw [show [116, 105, 99, 107, 32] ++ itoaF x.n = [116, 105, 99, 107] ++ 32 :: itoaF x.n from rfl, cut_at 32 _ _ (by decide)]; show opAt [116, 105, 99, 107] < 0; decide
    · rw [show [105, 110, 116, 101, 114, 114, 117, 112, 116, 32] ++ itoaF x.ev.num = [105, 110, 116, 101, 114, 114, 117, 112, 116] ++ 32 :: itoaF x.ev.num from rfl, cut_at 32 _ _ (by decide)]; show opAt [105, 110, 116, 101, 114, 114, 117, 112, 116] < 0; decide
theorem kind_nm : ∀ k, kindW (nmB k) = 0 := by
  intro k
  unfold nmB
  split <;> decide
theorem par_cut {s : List UInt8} {i : Ins} (h : parP s = some i) : ∃ k, (cutAt 32 s).1 = nmB k := by
  unfold parP at h
  simp only at h
  split at h
  · rename_i hc
    have h0 : 0 ≤ opAt (cutAt 32 s).1 := by have := hc.1; unfold opOk at this; simp at this; omega
    exact ⟨_, (opAt_some h0).symm⟩
  · cases h
theorem unl_par {s : List UInt8} {i : Ins} (h : parP s = some i) : unlF s = none := by
  obtain ⟨k, hk⟩ := par_cut h
  exact unl_head (by rw [hk]; exact kind_nm k)
theorem par_none_prog : parP progW = none := par_head (by decide)
theorem unl_none_prog : unlF progW = none := unl_head (by decide)
theorem text_cut (w : List UInt8) : cutAt 32 (textW ++ 32 :: w) = (textW, w, true) := cut_at 32 _ _ (by decide)
theorem par_none_text (w : List UInt8) : parP (textW ++ 32 :: w) = none := par_head (by rw [text_cut]; show opAt textW < 0; decide)
theorem unl_none_text (w : List UInt8) : unlF (textW ++ 32 :: w) = none := unl_head (by rw [text_cut]; show kindW textW = 0; decide)
theorem text_ne (w : List UInt8) : textW ++ 32 :: w ≠ progW := by
  intro h
  have := congrArg List.head? h
  simp [textW, progW] at this
theorem lineR_str {r : Rd} {x : Str} {len : Int} (h : mayS x = true) : lineR r (lineT x) len = evR r x := by
  unfold lineR
  rw [unl_back h]
theorem lineR_ins {r : Rd} {i : Ins} {len : Int} (h : May len i) : lineR r (lineB i) len = inR r i len := by
  have hp := parP_back h.may256 h.i0 h.i1
  unfold lineR
  rw [unl_par hp, hp]
theorem lineR_prog (r : Rd) (len : Int) : lineR r progW len = prR r := by
  unfold lineR
  rw [unl_none_prog, par_none_prog]
  rfl
theorem lineR_text (r : Rd) (w : List UInt8) (len : Int) : lineR r (textW ++ 32 :: w) len = txR r w := by
  unfold lineR
  rw [unl_none_text, par_none_text]
  simp only
  rw [if_neg (text_ne w), text_cut, if_pos ⟨rfl, rfl⟩]
theorem lineB_ne {i : Ins} (h : mayI i 256 = true) (h0 : -9223372036854775808 ≤ i.imm) (h1 : i.imm ≤ 9223372036854775807) : lineB i ≠ progW := fun e => by
  have := parP_back h h0 h1
  rw [e, par_none_prog] at this
  cases this
theorem lineT_ne {x : Str} (h : mayS x = true) : lineT x ≠ progW := fun e => by
  have := unl_back h
  rw [e, unl_none_prog] at this
  cases this
/-! ## Counting -/
theorem cntL_zero {t : List UInt8} (h : ¬ ((cutAt 10 t).2.2 = true ∧ (parP (cutAt 10 t).1).isSome = true)) (f : Nat) : cntL f t = 0 := by
  cases f with
  | zero => rfl
  | succ f => unfold cntL; rw [if_neg h]
theorem cntL_fuel : ∀ (f g : Nat) (t : List UInt8), t.length ≤ f → t.length ≤ g → cntL f t = cntL g t
  | 0, g, t, hf, hg => by
    have ht : t = [] := List.eq_nil_of_length_eq_zero (by omega)
    subst ht
    exact (cntL_zero (by simp [cutAt]) g).symm
  | f + 1, 0, t, hf, hg => by
    have ht : t = [] := List.eq_nil_of_length_eq_zero (by omega)
    subst ht
    exact cntL_zero (by simp [cutAt]) _
  | f + 1, g + 1, t, hf, hg => by
    unfold cntL
    split
    · rename_i hc
      have hw := congrArg List.length (cut_whole 10 t hc.1)
      simp at hw
      rw [cntL_fuel f g _ (by omega) (by omega)]
    · rfl
theorem cnt_stop {t : List UInt8} (h : ¬ ((cutAt 10 t).2.2 = true ∧ (parP (cutAt 10 t).1).isSome = true)) : cnt t = 0 := cntL_zero h _
theorem cnt_next {t : List UInt8} (h : (cutAt 10 t).2.2 = true ∧ (parP (cutAt 10 t).1).isSome = true) : cnt t = cnt (cutAt 10 t).2.1 + 1 := by
  have hw := congrArg List.length (cut_whole 10 t h.1)
  simp at hw
  obtain ⟨f, hf⟩ : ∃ f, t.length = f + 1 := ⟨t.length - 1, by omega⟩
  unfold cnt
  rw [hf]
  conv => lhs; unfold cntL
  rw [if_pos h, cntL_fuel f _ _ (by omega) (Nat.le_refl _)]
theorem cnt_ins {i : Ins} (h : mayI i 256 = true) (h0 : -9223372036854775808 ≤ i.imm) (h1 : i.imm ≤ 9223372036854775807) (rest : List UInt8) : cnt (lineB i ++ 10 :: rest) = cnt rest + 1 := by
  have hc := cut_at 10 (lineB i) rest (line_facts h h0 h1).1
  have := cnt_next (t := lineB i ++ 10 :: rest) (by rw [hc, parP_back h h0 h1]; exact ⟨rfl, rfl⟩)
  rw [this, hc]
theorem cnt_txt {len : Int} {rest : List UInt8} (hr : cnt rest = 0) : ∀ p : List Ins, (∀ i ∈ p, May len i) → cnt (txtL p ++ rest) = p.length
  | [], _ => by simpa [txtL] using hr
  | i :: p, h => by
    have hi := h i (by simp)
    have e : txtL (i :: p) ++ rest = lineB i ++ 10 :: (txtL p ++ rest) := by simp [txtL]
    rw [e, cnt_ins hi.may256 hi.i0 hi.i1, cnt_txt hr p (fun j hj => h j (by simp [hj]))]
    rfl
/-! ## What is written is read -/
theorem parL_line {f n : Nat} {len : Int} {r r' : Rd} {s rest : List UInt8} (hs : (10 : UInt8) ∉ s) (h : lineR r s (lenR s rest len) = some r') : parL (f + 1) n len r (s ++ 10 :: rest) = parL f (n + 1) (lenR s rest len) r' rest := by
  have hc := cut_at 10 s rest hs
  conv => lhs; unfold parL
  rw [if_neg (by simp), hc]
  simp only [if_true]
  rw [h]
theorem parL_bad {f n : Nat} {len : Int} {r : Rd} {s rest : List UInt8} (hs : (10 : UInt8) ∉ s) (h : lineR r s (lenR s rest len) = none) : parL (f + 1) n len r (s ++ 10 :: rest) = (n, none) := by
  have hc := cut_at 10 s rest hs
  unfold parL
  rw [if_neg (by simp), hc]
  simp only [if_true]
  rw [h]
theorem parL_ins {len : Int} {ts : List (List UInt8)} {es : List Ev} {rest : List UInt8} (ps : List (List Ins)) : ∀ (p q : List Ins) (f n : Nat), (∀ i ∈ p, May len i) → q.length + p.length ≤ 256 → p.length ≤ f → parL f n len ⟨ps ++ [q], ts, es, 1⟩ (txtL p ++ rest) = parL (f - p.length) (n + p.length) len ⟨ps ++ [q ++ p], ts, es, 1⟩ rest
  | [], q, f, n, _, _, _ => by simp [txtL]
  | i :: p, q, f, n, h, hl, hf => by
    obtain ⟨g, rfl⟩ : ∃ g, f = g + 1 := ⟨f - 1, by simp at hf; omega⟩
    have hi := h i (by simp)
    have e : txtL (i :: p) ++ rest = lineB i ++ 10 :: (txtL p ++ rest) := by simp [txtL]
    have hL : lenR (lineB i) (txtL p ++ rest) len = len := if_neg (lineB_ne hi.may256 hi.i0 hi.i1)
    have hR : inR ⟨ps ++ [q], ts, es, 1⟩ i len = some ⟨ps ++ [q ++ [i]], ts, es, 1⟩ := by
      unfold inR
      simp only [List.getLastD_eq_getLast?, List.getLast?_append, List.getLast?_singleton, Option.some_or, Option.getD_some, List.dropLast_concat]
      rw [if_neg]
      rintro (h1 | h1 | h1)
      · exact h1 rfl
      · rw [hi.may] at h1; cases h1
      · simp at hl; omega
    rw [e, parL_line (line_facts hi.may256 hi.i0 hi.i1).1 (by rw [hL, lineR_ins hi]; exact hR), hL]
    rw [parL_ins ps p (q ++ [i]) g (n + 1) (fun j hj => h j (by simp [hj])) (by simp at hl ⊢; omega) (by simp at hf; omega)]
    simp only [List.append_assoc, List.cons_append, List.nil_append, List.length_cons]
    rw [show g + 1 - (p.length + 1) = g - p.length by omega, show n + 1 + p.length = n + (p.length + 1) by omega]
def linesP (ps : List (List Ins)) : Nat := (ps.map fun p => p.length + 1).sum
theorem cnt_prog (rest : List UInt8) : cnt (progW ++ 10 :: rest) = 0 := cnt_stop (by rw [cut_at 10 progW rest (by decide), par_none_prog]; simp)
theorem cnt_progs {rest : List UInt8} (hr : cnt rest = 0) (ps : List (List Ins)) : cnt (progsB ps ++ rest) = 0 := by
  cases ps with
  | nil => simpa [progsB] using hr
  | cons p ps =>
    have e : progsB (p :: ps) ++ rest = progW ++ 10 :: (txtL p ++ (progsB ps ++ rest)) := by simp [progsB]
    rw [e]; exact cnt_prog _
theorem parL_progs {es : List Ev} {ts : List (List UInt8)} {rest : List UInt8} (hr : cnt rest = 0) : ∀ (ps qs : List (List Ins)) (f n : Nat) (len : Int) (a : Nat), a ≤ 1 → (∀ p ∈ ps, gP p) → qs.length + ps.length ≤ 32 → linesP ps ≤ f → ∃ len', parL f n len ⟨qs, ts, es, a⟩ (progsB ps ++ rest) = parL (f - linesP ps) (n + linesP ps) len' ⟨qs ++ ps, ts, es, if ps = [] then a else 1⟩ rest
  | [], qs, f, n, len, a, _, _, _, _ => ⟨len, by simp [progsB, linesP]⟩
  | p :: ps, qs, f, n, len, a, ha, h, hl, hf => by
    have hS : linesP (p :: ps) = p.length + 1 + linesP ps := by simp [linesP]
    rw [hS] at hf ⊢
    obtain ⟨g, rfl⟩ : ∃ g, f = g + 1 := ⟨f - 1, by omega⟩
    have hp := h p (by simp)
    have e : progsB (p :: ps) ++ rest = progW ++ 10 :: (txtL p ++ (progsB ps ++ rest)) := by simp [progsB]
    have hL : lenR progW (txtL p ++ (progsB ps ++ rest)) len = (p.length : Int) := by
      unfold lenR
      rw [if_pos rfl, cnt_txt (cnt_progs hr ps) p hp.2]
    have hR : prR ⟨qs, ts, es, a⟩ = some ⟨qs ++ [[]], ts, es, 1⟩ := by
      unfold prR
      rw [if_neg]
      simp only
      simp at hl
      omega
    rw [e, parL_line (by decide) (by rw [hL, lineR_prog]; exact hR), hL, parL_ins qs p [] g (n + 1) hp.2 (by have := hp.1; simp; omega) (by omega)]
    rw [List.nil_append]
    obtain ⟨len', h2⟩ := parL_progs hr ps (qs ++ [p]) (g - p.length) (n + 1 + p.length) p.length 1 (Nat.le_refl _) (fun q hq => h q (by simp [hq])) (by simp at hl ⊢; omega) (by omega)
    refine ⟨len', ?_⟩
    rw [h2]
    simp only [List.append_assoc, List.cons_append, List.nil_append]
    rw [show g - p.length - linesP ps = g + 1 - (p.length + 1 + linesP ps) by omega, show n + 1 + p.length + linesP ps = n + (p.length + 1 + linesP ps) by omega, if_neg (by simp : ¬ (p :: ps = []))]
    congr 2
    split <;> rfl
theorem parL_texts {len : Int} {ps : List (List Ins)} {es : List Ev} {rest : List UInt8} : ∀ (us ts : List (List UInt8)) (f n a : Nat), (a = 1 ∨ a = 2) → (∀ t ∈ us, t.length ≤ 64) → ts.length + us.length ≤ 32 → us.length ≤ f → parL f n len ⟨ps, ts, es, a⟩ (textsB us ++ rest) = parL (f - us.length) (n + us.length) len ⟨ps, ts ++ us, es, if us = [] then a else 2⟩ rest
  | [], ts, f, n, a, _, _, _, _ => by simp [textsB]
  | t :: us, ts, f, n, a, ha, h, hl, hf => by
    obtain ⟨g, rfl⟩ : ∃ g, f = g + 1 := ⟨f - 1, by simp at hf; omega⟩
    have ht := h t (by simp)
    have e : textsB (t :: us) ++ rest = (textW ++ 32 :: wordB t) ++ 10 :: (textsB us ++ rest) := by simp [textsB]
    have hn : (10 : UInt8) ∉ textW ++ 32 :: wordB t := by
      simp only [List.mem_append, List.mem_cons, not_or]
      exact ⟨by decide, by decide, (wordB_facts t).1⟩
    have hL : lenR (textW ++ 32 :: wordB t) (textsB us ++ rest) len = len := if_neg (text_ne _)
    have hR : txR ⟨ps, ts, es, a⟩ (wordB t) = some ⟨ps, ts ++ [t], es, 2⟩ := by
      unfold txR
      rw [unw_back]
      simp only
      rw [if_neg]
      simp at hl
      omega
    rw [e, parL_line hn (by rw [hL, lineR_text]; exact hR), hL, parL_texts us (ts ++ [t]) g (n + 1) 2 (.inr rfl) (fun q hq => h q (by simp [hq])) (by simp at hl ⊢; omega) (by simp at hf; omega)]
    simp only [List.append_assoc, List.cons_append, List.nil_append, List.length_cons]
    rw [show g + 1 - (us.length + 1) = g - us.length by omega, show n + 1 + us.length = n + (us.length + 1) by omega, if_neg (by simp : ¬ (t :: us = []))]
    congr 2
    split <;> rfl
/-- The events of stretches. -/
def evsL (l : List Str) : List Ev := l.flatMap fun x => List.replicate x.n.toNat x.ev
/-- Stretches no two of which are one. -/
def Apart : List Str → Prop
  | [] => True
  | [x] => True
  | x :: y :: l => (x.ev.kind ≠ 3 → x.ev ≠ y.ev) ∧ Apart (y :: l)
theorem strF_apart : ∀ l : List Ev, Apart (strF l)
  | [] => trivial
  | e :: r => by
    have ih := strF_apart r
    cases he : mayE e with
    | false => rw [strF_bad he]; trivial
    | true =>
      rw [strF_cons he]
      cases hx : strF r with
      | nil => trivial
      | cons x xs =>
        rw [hx] at ih
        by_cases hc : e.kind ≠ 3 ∧ x.ev = e
        · rw [joinS_same _ hc.1 hc.2]
          cases xs with
          | nil => trivial
          | cons y ys => exact ⟨fun hk => by have := ih.1 (by rw [hc.2]; exact hk); rw [hc.2] at this; exact this, ih.2⟩
        · rw [joinS_other _ hc]
          exact ⟨fun hk h2 => hc ⟨hk, h2.symm⟩, ih⟩
theorem evsL_strF : ∀ l : List Ev, (∀ e ∈ l, mayE e = true) → evsL (strF l) = l
  | [], _ => rfl
  | e :: r, h => by
    have he := h e (by simp)
    have ih := evsL_strF r (fun x hx => h x (by simp [hx]))
    have hge := strF_ge r
    rw [strF_cons he]
    cases hx : strF r with
    | nil =>
      rw [hx] at ih
      simp [evsL, joinS] at ih ⊢
      exact ih
    | cons x xs =>
      rw [hx] at ih hge
      by_cases hc : e.kind ≠ 3 ∧ x.ev = e
      · rw [joinS_same _ hc.1 hc.2]
        have h1 := hge x (by simp)
        have e1 : (x.n + 1).toNat = x.n.toNat + 1 := by omega
        unfold evsL at ih ⊢
        simp only [List.flatMap_cons] at ih ⊢
        rw [e1, List.replicate_succ, List.cons_append, ← hc.2, ih]
      · rw [joinS_other _ hc]
        unfold evsL at ih ⊢
        simp only [List.flatMap_cons] at ih ⊢
        rw [ih]
        rfl
theorem parL_strs {len : Int} {ps : List (List Ins)} {ts : List (List UInt8)} {rest : List UInt8} : ∀ (l : List Str) (es : List Ev) (f n a : Nat), a ≠ 0 → Apart l → (∀ x ∈ l, mayS x = true) → (∀ x, l.head? = some x → again es x = false) → es.length + (evsL l).length ≤ 8192 → l.length ≤ f → parL f n len ⟨ps, ts, es, a⟩ (strB l ++ rest) = parL (f - l.length) (n + l.length) len ⟨ps, ts, es ++ evsL l, if l = [] then a else 3⟩ rest
  | [], es, f, n, a, _, _, _, _, _, _ => by simp [strB, evsL]
  | x :: l, es, f, n, a, ha, hA, h, hh, hl, hf => by
    obtain ⟨g, rfl⟩ : ∃ g, f = g + 1 := ⟨f - 1, by simp at hf; omega⟩
    have hx := h x (by simp)
    have hb := mayS_num hx
    have e : strB (x :: l) ++ rest = lineT x ++ 10 :: (strB l ++ rest) := by simp [strB]
    have hL : lenR (lineT x) (strB l ++ rest) len = len := if_neg (lineT_ne hx)
    have hE : evsL (x :: l) = List.replicate x.n.toNat x.ev ++ evsL l := by simp [evsL]
    rw [hE] at hl ⊢
    rw [List.length_append, List.length_replicate] at hl
    have hR : evR ⟨ps, ts, es, a⟩ x = some ⟨ps, ts, es ++ List.replicate x.n.toNat x.ev, 3⟩ := by
      unfold evR
      rw [if_neg]
      rintro (h1 | h1 | h1)
      · exact ha h1
      · simp only at h1; rw [hh x rfl] at h1; cases h1
      · simp only at h1; omega
    have hA2 : Apart l := by
      cases l with
      | nil => trivial
      | cons y l => exact hA.2
    have hag : ∀ y, l.head? = some y → again (es ++ List.replicate x.n.toNat x.ev) y = false := by
      intro y hy
      cases l with
      | nil => cases hy
      | cons z l =>
        simp only [List.head?_cons, Option.some.injEq] at hy
        subst hy
        unfold again
        have hlast : (es ++ List.replicate x.n.toNat x.ev).getLast? = some x.ev := by
          obtain ⟨m, hm⟩ : ∃ m, x.n.toNat = m + 1 := ⟨x.n.toNat - 1, by omega⟩
          rw [hm, List.replicate_succ', ← List.append_assoc, List.getLast?_concat]
        rw [hlast]
        simp only [decide_eq_false_iff_not]
        rintro ⟨h1, h2⟩
        injection h2 with h2
        exact hA.1 (by rw [h2]; exact h1) h2
    rw [e, parL_line (lineT_facts hx).1 (by rw [hL, lineR_str hx]; exact hR), hL, parL_strs l _ g (n + 1) 3 (by decide) hA2 (fun y hy => h y (by simp [hy])) hag (by rw [List.length_append, List.length_replicate]; omega) (by simp at hf; omega)]
    simp only [List.append_assoc, List.length_cons]
    rw [show g + 1 - (l.length + 1) = g - l.length by omega, show n + 1 + l.length = n + (l.length + 1) by omega, if_neg (by simp : ¬ (x :: l = []))]
    congr 2
    split <;> rfl
theorem numOk_iff (v : Nat → Int) : numOk v = true ↔ (∀ q, q < 6 → lo6 q ≤ v q ∧ v q ≤ hi6 q) ∧ v 4 % 8 = 0 := by
  unfold numOk; simp only [Bool.and_eq_true, decide_eq_true_eq, List.all_eq_true, List.mem_range]
theorem numOk_nat {v : Nat → Int} (h : numOk v = true) : ∀ q, q < 6 → 0 ≤ v q ∧ v q ≤ 9223372036854775807 := by
  rw [numOk_iff] at h
  intro q hq
  have := h.1 q hq
  have l : 0 ≤ lo6 q := by unfold lo6; split <;> omega
  have g : hi6 q ≤ 65536 := by unfold hi6; split <;> omega
  omega
theorem numOk_congr {v u : Nat → Int} (h : ∀ q, q < 6 → v q = u q) : numOk v = numOk u := by
  rw [Bool.eq_iff_iff, numOk_iff, numOk_iff]
  constructor
  · rintro ⟨h1, h2⟩; exact ⟨fun q hq => by rw [← h q hq]; exact h1 q hq, by rw [← h 4 (by omega)]; exact h2⟩
  · rintro ⟨h1, h2⟩; exact ⟨fun q hq => by rw [h q hq]; exact h1 q hq, by rw [h 4 (by omega)]; exact h2⟩
theorem hdOk_back {v : Nat → Int} (h : numOk v = true) : hdOk (headB v) = true := by
  have hn := numOk_nat h
  have e := numN_back v hn
  unfold hdOk
  rw [numOk_congr (u := v) e, h, Bool.true_and, decide_eq_true_eq]
  exact headN_congr 6 e
theorem cnt_texts {rest : List UInt8} (hr : cnt rest = 0) (ts : List (List UInt8)) : cnt (textsB ts ++ rest) = 0 := by
  cases ts with
  | nil => simpa [textsB] using hr
  | cons t ts =>
    have e : textsB (t :: ts) ++ rest = (textW ++ 32 :: wordB t) ++ 10 :: (textsB ts ++ rest) := by simp [textsB]
    have hn : (10 : UInt8) ∉ textW ++ 32 :: wordB t := by
      simp only [List.mem_append, List.mem_cons, not_or]
      exact ⟨by decide, by decide, (wordB_facts t).1⟩
    rw [e]
    exact cnt_stop (by rw [cut_at 10 _ _ hn, par_none_text]; simp)
theorem cnt_strs {l : List Str} (h : ∀ x ∈ l, mayS x = true) {rest : List UInt8} (hr : cnt rest = 0) : cnt (strB l ++ rest) = 0 := by
  cases l with
  | nil => simpa [strB] using hr
  | cons x l =>
    have hx := h x (by simp)
    have e : strB (x :: l) ++ rest = lineT x ++ 10 :: (strB l ++ rest) := by simp [strB]
    rw [e]
    exact cnt_stop (by rw [cut_at 10 _ _ (lineT_facts hx).1, par_lineT hx]; simp)
theorem cnt_nil : cnt [] = 0 := rfl
theorem strB_len (l : List Str) (h : ∀ x ∈ l, mayS x = true) : l.length ≤ (strB l).length := by
  induction l with
  | nil => simp
  | cons x l ih =>
    have := ih (fun y hy => h y (by simp [hy]))
    have e : strB (x :: l) = lineT x ++ 10 :: strB l := by simp [strB]
    rw [e]
    simp
    omega
theorem progsB_len (ps : List (List Ins)) : linesP ps ≤ (progsB ps).length := by
  induction ps with
  | nil => simp [linesP]
  | cons p ps ih =>
    have e : progsB (p :: ps) = progW ++ 10 :: (txtL p ++ progsB ps) := by simp [progsB]
    have hS : linesP (p :: ps) = p.length + 1 + linesP ps := by simp [linesP]
    have ht : p.length ≤ (txtL p).length := by
      induction p with
      | nil => simp
      | cons i p ih2 =>
        have e : txtL (i :: p) = lineB i ++ 10 :: txtL p := by simp [txtL]
        rw [e]
        have := ih2 (by simp [progsB]) (by simp [linesP])
        simp; omega
    rw [e, hS]
    simp
    omega
theorem textsB_len (ts : List (List UInt8)) : ts.length ≤ (textsB ts).length := by
  induction ts with
  | nil => simp
  | cons t ts ih =>
    have e : textsB (t :: ts) = (textW ++ 32 :: wordB t) ++ 10 :: textsB ts := by simp [textsB]
    rw [e]
    simp
    omega
/-- The lines behind the first one of a script's text, and more behind them. -/
theorem parL_text {s : Sc} (h : GoodS s) {rest : List UInt8} (hr : cnt rest = 0) (f : Nat) (hf : linesP s.ps + s.ts.length + (strF s.es).length ≤ f) : ∃ len a, a ≠ 0 ∧ (s.es = [] ∨ a = 3) ∧ parL f 1 0 ⟨[], [], [], 0⟩ (progsB s.ps ++ (textsB s.ts ++ (strB (strF s.es) ++ rest))) = parL (f - (linesP s.ps + s.ts.length + (strF s.es).length)) (1 + (linesP s.ps + s.ts.length + (strF s.es).length)) len ⟨s.ps, s.ts, s.es, a⟩ rest := by
  have hm : ∀ x ∈ strF s.es, mayS x = true := fun x hx => (strF_may s.es h.el x hx).1
  have he := evsL_strF s.es h.eg
  obtain ⟨len, h1⟩ := parL_progs (es := []) (ts := []) (cnt_texts (cnt_strs hm hr) s.ts) s.ps [] f 1 0 0 (by omega) h.pg (by have := h.pl; simp; omega) (by omega)
  rw [if_neg h.p0, List.nil_append] at h1
  rw [parL_texts s.ts [] _ _ 1 (.inl rfl) h.tg (by have := h.tl; simp; omega) (by omega), List.nil_append] at h1
  rw [parL_strs (strF s.es) [] _ _ (if s.ts = [] then 1 else 2) (by split <;> decide) (strF_apart _) hm (fun x _ => by unfold again; simp) (by rw [he]; have := h.el; simp; omega) (by omega), List.nil_append, he] at h1
  refine ⟨len, if strF s.es = [] then if s.ts = [] then 1 else 2 else 3, ?_, ?_, ?_⟩
  · split
    · split <;> decide
    · decide
  · split
    · rename_i h0
      left
      rw [h0] at he
      exact he.symm
    · exact .inr rfl
  · rw [h1, show f - linesP s.ps - s.ts.length - (strF s.es).length = f - (linesP s.ps + s.ts.length + (strF s.es).length) by omega, show 1 + linesP s.ps + s.ts.length + (strF s.es).length = 1 + (linesP s.ps + s.ts.length + (strF s.es).length) by omega]
theorem par_back {s : Sc} (h : GoodS s) (hl : (scrB s).length ≤ 1048576) : ∃ v, parF (scrB s) = (some ⟨v, s.ps, s.ts, s.es⟩, 0, 0) ∧ ∀ q, q < 6 → v q = s.v q := by
  have hn := numOk_nat h.v
  have h10 := headN_no10 s.v hn 6 (Nat.le_refl _)
  have e : scrB s = headB s.v ++ 10 :: (progsB s.ps ++ (textsB s.ts ++ (strB (strF s.es) ++ []))) := by simp [scrB, jobB]
  have hm : ∀ x ∈ strF s.es, mayS x = true := fun x hx => (strF_may s.es h.el x hx).1
  have l1 := progsB_len s.ps
  have l2 := textsB_len s.ts
  have l3 := strB_len _ hm
  have hlen := congrArg List.length e
  simp only [List.length_append, List.length_cons, List.length_nil] at hlen
  obtain ⟨len, a, ha, _, hp⟩ := parL_text h (rest := []) cnt_nil ((scrB s).length + 1) (by omega)
  refine ⟨numN (headB s.v), ?_, numN_back s.v hn⟩
  unfold parF
  rw [if_neg (by omega)]
  have hc : cutAt 10 (scrB s) = (headB s.v, progsB s.ps ++ (textsB s.ts ++ (strB (strF s.es) ++ [])), true) := by rw [e]; exact cut_at 10 _ _ h10
  rw [hc]
  simp only
  rw [if_pos ⟨hdOk_back h.v, trivial⟩, hp]
  obtain ⟨g, hg⟩ : ∃ g, (scrB s).length + 1 - (linesP s.ps + s.ts.length + (strF s.es).length) = g + 1 := ⟨(scrB s).length - (linesP s.ps + s.ts.length + (strF s.es).length), by omega⟩
  rw [hg]
  unfold parL
  rw [if_pos rfl]
  simp only
  rw [if_neg ha]
end Go.Proofs.YteblhklclcjonaaGreatDoor
