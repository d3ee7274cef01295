/- Code: what is written is read: the plain laws of texts and bytes. Condition: a program that may be. -/
import Derived.Test.YtmaljajdmgkakaaGreatDoorCt6
import Derived.Test.YtmaljajdmgkakaaGreatDoorCt4
namespace Go.Proofs.YtmaljajdmgkakaaGreatDoor
open Go.RowKit
set_option linter.unusedVariables false
set_option linter.all false
set_option maxRecDepth 20000

def pOf (n : Nat) (f : Nat → Ins) : List Ins := (List.range n).map f
theorem pOf_len (n : Nat) (f : Nat → Ins) : (pOf n f).length = n := by simp [pOf]
theorem fOf_pOf {n : Nat} {f : Nat → Ins} {k : Nat} (hk : k < n) : fOf (pOf n f) k = f k := by
  unfold fOf pOf
  rw [List.getD_eq_getElem?_getD, List.getElem?_map, List.getElem?_range hk]
  rfl
theorem pOf_succ (n : Nat) (f : Nat → Ins) : pOf (n + 1) f = pOf n f ++ [f n] := by simp [pOf, List.range_succ]
theorem pOf_fOf (p : List Ins) : pOf p.length (fOf p) = p := by
  apply List.ext_getElem?
  intro k
  unfold pOf
  rw [List.getElem?_map]
  by_cases hk : k < p.length
  · rw [List.getElem?_range hk, List.getElem?_eq_getElem hk]
    simp [fOf, List.getD_eq_getElem?_getD, List.getElem?_eq_getElem hk]
  · rw [List.getElem?_eq_none (by simp; omega), List.getElem?_eq_none (by omega)]
    rfl
def txtL (p : List Ins) : List UInt8 := p.flatMap fun i => lineB i ++ [10]
def bodyL (p : List Ins) : List UInt8 := p.flatMap insB
theorem listB_txt (f : Nat → Ins) : ∀ n, listB f n = txtL (pOf n f)
  | 0 => rfl
  | n + 1 => by rw [pOf_succ]; unfold listB txtL; rw [List.flatMap_append]; rw [listB_txt f n]; simp [txtL]
theorem bodyB_body (f : Nat → Ins) : ∀ n, bodyB f n = bodyL (pOf n f)
  | 0 => rfl
  | n + 1 => by rw [pOf_succ]; unfold bodyB bodyL; rw [List.flatMap_append]; rw [bodyB_body f n]; simp [bodyL]
/-- An instruction that may be in a program of a length. -/
structure May (len : Int) (i : Ins) : Prop where
  may : mayI i len = true
  may256 : mayI i 256 = true
  i0 : -9223372036854775808 ≤ i.imm
  i1 : i.imm ≤ 9223372036854775807
theorem Good.all {n : Nat} {f : Nat → Ins} (h : Good n f) : ∀ i ∈ pOf n f, May n i := fun i hi => by
  unfold pOf at hi
  obtain ⟨k, hk, rfl⟩ := List.mem_map.1 hi
  rw [List.mem_range] at hk
  exact ⟨h.may k hk, h.may256 hk, (h.imm k hk).1, (h.imm k hk).2⟩
theorem regB_facts (n : Bool) (x : Int) (h : regOk n x = true) : (10 : UInt8) ∉ regB n x ∧ (regB n x).length ≤ 3 := by
  unfold regOk at h
  unfold regB
  cases n with
  | false => simp
  | true =>
    simp at h
    obtain ⟨k, rfl⟩ : ∃ k : Nat, x = k := ⟨x.toNat, by omega⟩
    have h1 := (itoaF_blank (k : Int) (by omega) (by omega)).2
    have h2 := (digit_reg k (by omega)).1
    refine ⟨?_, ?_⟩
    · simp only [if_true, List.mem_cons, not_or]
      exact ⟨by decide, by decide, h1⟩
    · simp [h2]
theorem line_facts {i : Ins} (hm : mayI i 256 = true) (h0 : -9223372036854775808 ≤ i.imm) (h1 : i.imm ≤ 9223372036854775807) : (10 : UInt8) ∉ lineB i ∧ (lineB i).length ≤ 36 := by
  obtain ⟨-, hd, ha, hb, -⟩ := mayI_parts hm
  have r1 := regB_facts _ _ hd
  have r2 := regB_facts _ _ ha
  have r3 := regB_facts _ _ hb
  have hn := nm_blank i.op.toNat
  have hi := (itoaF_blank i.imm h0 h1).2
  have hil := itoaF_len i.imm
  unfold lineB
  refine ⟨?_, ?_⟩
  · simp only [List.mem_append, not_or]
    refine ⟨hn.2.1, r1.1, r2.1, r3.1, ?_⟩
    split
    · simp only [List.mem_cons, not_or]; exact ⟨by decide, hi⟩
    · simp
  · simp only [List.length_append]
    have : (if (shp i.op.toNat).imm ≠ 0 then 32 :: itoaF i.imm else []).length ≤ 23 := by split <;> simp <;> omega
    omega
theorem txtL_len {len : Int} : ∀ (p : List Ins), (∀ i ∈ p, May len i) → (txtL p).length ≤ 37 * p.length
  | [], _ => by simp [txtL]
  | i :: p, h => by
    have h1 := (line_facts (h i (by simp)).may256 (h i (by simp)).i0 (h i (by simp)).i1).2
    have h2 := txtL_len p (fun j hj => h j (by simp [hj]))
    have : txtL (i :: p) = (lineB i ++ [10]) ++ txtL p := by simp [txtL]
    rw [this]
    simp only [List.length_append, List.length_cons, List.length_nil]
    omega
theorem readL_txt {cnt : Int} : ∀ (r q : List Ins) (fuel : Nat), (∀ i ∈ r, May cnt i) → q.length + r.length ≤ 256 → r.length ≤ fuel → readL cnt fuel q (txtL r) = (q ++ r, [])
  | [], q, fuel, _, _, _ => by
    have : txtL [] = [] := rfl
    rw [this, readL_nil]; simp
  | i :: r, q, fuel, h, hl, hf => by
    obtain ⟨g, rfl⟩ : ∃ g, fuel = g + 1 := ⟨fuel - 1, by simp at hf; omega⟩
    have hi := h i (by simp)
    have e : txtL (i :: r) = lineB i ++ 10 :: txtL r := by simp [txtL]
    have hc := cut_at 10 (lineB i) (txtL r) (line_facts hi.may256 hi.i0 hi.i1).1
    rw [e, readL_go (i := i) (by simp) (by rw [hc]; exact parP_back hi.may256 hi.i0 hi.i1) ⟨by rw [hc], hi.may, by simp at hl; omega⟩, hc]
    rw [readL_txt r (q ++ [i]) g (fun j hj => h j (by simp [hj])) (by simp at hl ⊢; omega) (by simp at hf; omega)]
    simp
theorem smR_back (x : Nat) (hx : x ≤ 255) (rest : List UInt8) : smR (numF x ++ rest) 0 = ((x : Int), (0 : Int), (numF x).length) := by
  unfold smR
  rw [resN_back x (by omega)]
  simp only [if_true]
  rw [if_neg (by omega)]
  have : wrap64 (x : Int) = x := by unfold wrap64; omega
  rw [this]
theorem oneR_back {i : Ins} (hm : mayI i 256 = true) (h0 : -9223372036854775808 ≤ i.imm) (h1 : i.imm ≤ 9223372036854775807) (rest : List UInt8) : oneR (insB i ++ rest) = (i, 0, (insB i).length) := by
  obtain ⟨o, d, a, b, ho, hd, ha, hb, hi⟩ := nats_of hm
  obtain ⟨m, him⟩ : ∃ m, i.imm = m := ⟨_, rfl⟩
  rw [him] at hi h0 h1
  subst hi
  have e : insB ⟨o, d, a, b, m⟩ = numF o ++ (numF d ++ (numF a ++ (numF b ++ numF (zig m)))) := rfl
  unfold oneR
  simp only [e]
  have s1 := smR_back o (by omega) (numF d ++ (numF a ++ (numF b ++ (numF (zig m) ++ rest))))
  have s2 := smR_back d (by omega) (numF a ++ (numF b ++ (numF (zig m) ++ rest)))
  have s3 := smR_back a (by omega) (numF b ++ (numF (zig m) ++ rest))
  have s4 := smR_back b (by omega) (numF (zig m) ++ rest)
  have s5 := resN_back (zig m) (zig_lt m h0 h1) rest
  have hall : numF o ++ (numF d ++ (numF a ++ (numF b ++ numF (zig m)))) ++ rest = numF o ++ (numF d ++ (numF a ++ (numF b ++ (numF (zig m) ++ rest)))) := by simp
  rw [hall]
  have dr : ∀ (x y : List UInt8) k, k = x.length → (x ++ y).drop k = y := fun x y k hk => by rw [hk, List.drop_left]
  have d1 := dr (numF o) (numF d ++ (numF a ++ (numF b ++ (numF (zig m) ++ rest)))) _ rfl
  have d2 : (numF o ++ (numF d ++ (numF a ++ (numF b ++ (numF (zig m) ++ rest))))).drop ((numF o).length + (numF d).length) = numF a ++ (numF b ++ (numF (zig m) ++ rest)) := by
    rw [← List.drop_drop, d1]; exact dr _ _ _ rfl
  have d3 : (numF o ++ (numF d ++ (numF a ++ (numF b ++ (numF (zig m) ++ rest))))).drop ((numF o).length + (numF d).length + (numF a).length) = numF b ++ (numF (zig m) ++ rest) := by
    rw [← List.drop_drop, d2]; exact dr _ _ _ rfl
  have d4 : (numF o ++ (numF d ++ (numF a ++ (numF b ++ (numF (zig m) ++ rest))))).drop ((numF o).length + (numF d).length + (numF a).length + (numF b).length) = numF (zig m) ++ rest := by
    rw [← List.drop_drop, d3]; exact dr _ _ _ rfl
  simp only [s1, d1, s2, d2, s3, d3, s4, d4, s5, unzig_zig, if_true, List.length_append]
  simp [Nat.add_assoc]
theorem takeL_back {len : Int} : ∀ (r q : List Ins), (∀ i ∈ r, May len i) → takeL r.length q 0 (bodyL r) = (q ++ r, 0, [])
  | [], q, _ => by simp [takeL, bodyL]
  | i :: r, q, h => by
    have hi := h i (by simp)
    have e : bodyL (i :: r) = insB i ++ bodyL r := by simp [bodyL]
    rw [List.length_cons]
    unfold takeL
    rw [if_pos rfl, e, oneR_back hi.may256 hi.i0 hi.i1 (bodyL r)]
    simp only [List.drop_left]
    rw [takeL_back r (q ++ [i]) (fun j hj => h j (by simp [hj]))]
    simp
theorem Good.same {n : Nat} {f g : Nat → Ins} (h : Good n f) (he : ∀ k, k < n → g k = f k) : Good n g := ⟨h.len, fun k hk => by rw [he k hk]; exact h.may k hk, fun k hk => by rw [he k hk]; exact h.imm k hk⟩
theorem Good.bad {n : Nat} {f : Nat → Ins} (h : Good n f) : badP n f = false := by
  have := h.chk
  obtain ⟨x, hx⟩ := chkV_bad n f
  rw [this] at hx
  cases hb : badP n f with
  | false => rfl
  | true => rw [hb] at hx; simp at hx
/-- A program's bytes are read as it. -/
theorem takeF_back {n : Nat} {f : Nat → Ins} (h : Good n f) : takeF (putB n f) = some (pOf n f) := by
  have hn := h.len
  have hc : resC 256 (putB n f) = ((n : Int), (0 : Int), (numF n).length) := resC_back n (by omega) _ 256 (by omega)
  have ht : takeW (putB n f) = (pOf n f, 0, []) := by
    unfold takeW
    rw [hc]
    simp only [if_true, Int.toNat_natCast]
    have e : (putB n f).drop (numF n).length = bodyL (pOf n f) := by unfold putB; rw [List.drop_left, bodyB_body]
    rw [e]
    have := takeL_back (pOf n f) [] h.all
    rw [pOf_len] at this
    rw [this]
    simp
  unfold takeF
  rw [ht]
  simp only
  have hb : badP (pOf n f).length (fOf (pOf n f)) = false := by
    rw [pOf_len]
    exact (h.same (fun k hk => fOf_pOf hk)).bad
  exact if_pos ⟨trivial, hb, trivial⟩
theorem count_txt {len : Int} : ∀ (p : List Ins), (∀ i ∈ p, May len i) → (txtL p).count 10 = p.length
  | [], _ => rfl
  | i :: p, h => by
    have h1 := (line_facts (h i (by simp)).may256 (h i (by simp)).i0 (h i (by simp)).i1).1
    have h2 := count_txt p (fun j hj => h j (by simp [hj]))
    have e : txtL (i :: p) = lineB i ++ ([10] ++ txtL p) := by simp [txtL]
    rw [e, List.count_append, List.count_append, List.count_eq_zero.2 h1, h2]
    simp; omega
theorem suf_txt : ∀ (p : List Ins), p ≠ [] → Lib.hasSuffix (txtL p) [10] = true := by
  intro p hp
  obtain ⟨q, i, rfl⟩ : ∃ q i, p = q ++ [i] := ⟨p.dropLast, p.getLast hp, (List.dropLast_concat_getLast hp).symm⟩
  have e : txtL (q ++ [i]) = (txtL q ++ lineB i) ++ [10] := by simp [txtL]
  unfold Lib.hasSuffix
  rw [List.isSuffixOf_iff_suffix, e]
  exact List.suffix_append _ _
theorem cntR_txt {len : Int} (p : List Ins) (h : ∀ i ∈ p, May len i) : cntR (txtL p) = p.length := by
  unfold cntR Lib.countByte
  rw [count_txt p h]
  by_cases hp : p = []
  · subst hp; simp [txtL]
  · rw [if_neg (fun hc => by rw [suf_txt p hp] at hc; exact absurd hc.2 (by decide))]
    simp
/-- A program's text is read as it. -/
theorem readR_back {n : Nat} {f : Nat → Ins} (h : Good n f) : readR (listB f n) = (pOf n f, 0, 0) := by
  have hn := h.len
  have hl := txtL_len (pOf n f) h.all
  rw [pOf_len] at hl
  have hc := cntR_txt (pOf n f) h.all
  rw [pOf_len] at hc
  unfold readR
  rw [listB_txt, if_neg (by omega), hc]
  have hle : (pOf n f).length ≤ (txtL (pOf n f)).length := by
    rw [← count_txt (pOf n f) h.all]; exact List.count_le_length
  rw [readL_txt (pOf n f) [] _ h.all (by rw [pOf_len]; simp; omega) hle]
  simp
end Go.Proofs.YtmaljajdmgkakaaGreatDoor
