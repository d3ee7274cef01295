/- Code: the document's Parse, as a plain function: it is the program's. No condition. -/
import Derived.Test.YteblhklclcjonaaGreatDoorCd1
namespace Go.Proofs.YteblhklclcjonaaGreatDoor
open Go.Lib
set_option linter.unusedVariables false
set_option linter.all false
set_option maxRecDepth 20000

theorem parseV_bounds (l : List UInt8) : -9223372036854775808 ≤ parseV l ∧ parseV l ≤ 9223372036854775807 := by
  unfold parseV
  split
  · rename_i v h
    cases l with
    | nil => cases h
    | cons c r =>
      rw [parseIntB_cons] at h
      split at h
      · cases h
      · cases h
      · rw [pow63] at h
        split at h
        · cases h
        · split at h
          · cases h
          · injection h with h
            subst h
            split <;> omega
  · omega
  · unfold intSat
    split <;> decide
/-- A register as the document reads it. -/
def regR (n : Bool) (rest : List UInt8) : Option (Int × List UInt8) :=
  if n then match (cutAt 32 rest).1 with
    | [r, c] => if r = 114 ∧ 48 ≤ c.toNat ∧ c.toNat ≤ 55 then some ((c.toNat : Int) - 48, (cutAt 32 rest).2.1) else none
    | _ => none
  else some (0, rest)
def immR (k : Nat) (rest : List UInt8) : Int := if k ≠ 0 then parseV rest else 0
def insR (k : Nat) (rest : List UInt8) : Option Ins :=
  match regR (shp k).d rest with
  | none => none
  | some x => match regR (shp k).a x.2 with
    | none => none
    | some y => match regR (shp k).b y.2 with
      | none => none
      | some z => some ⟨k, x.1, y.1, z.1, immR (shp k).imm z.2⟩
def refP (s : List UInt8) : Option Ins :=
  if opOk (opAt (cutAt 32 s).1) = true then
    match insR (opAt (cutAt 32 s).1).toNat (cutAt 32 s).2.1 with
    | none => none
    | some i => if mayI i 256 = true ∧ lineB i = s then some i else none
  else none
theorem digit_reg : ∀ x : Nat, x < 8 → itoaF x = [UInt8.ofNat (48 + x)] ∧ (UInt8.ofNat (48 + x)).toNat = 48 + x := by decide
theorem regR_back {n : Bool} {x : Int} {l : List UInt8} (h : regOk n x = true) (hl : Tl l) : regR n (regB n x ++ l).tail = some (x, l.tail) := by
  unfold regOk at h
  unfold regR regB
  cases n with
  | false =>
    simp at h
    simp [h]
  | true =>
    simp at h
    obtain ⟨k, rfl⟩ : ∃ k : Nat, x = k := ⟨x.toNat, by omega⟩
    have hb : (32 : UInt8) ∉ (114 :: itoaF k) := by
      simp only [List.mem_cons, not_or]
      exact ⟨by decide, (itoaF_blank k (by omega) (by omega)).1⟩
    have := cut_tl hb hl
    obtain ⟨e1, e2⟩ := digit_reg k (by omega)
    simp only [if_true, List.cons_append, List.tail_cons] at this ⊢
    rw [this, e1]
    simp only
    rw [if_pos ⟨trivial, by omega, by omega⟩, e2]
    congr 2
    omega
theorem refP_back {i : Ins} (h : mayI i 256 = true) (h0 : -9223372036854775808 ≤ i.imm) (h1 : i.imm ≤ 9223372036854775807) : refP (lineB i) = some i := by
  obtain ⟨⟨o0, o1⟩, hd, ha, hb, hi⟩ := mayI_parts h
  obtain ⟨o, ho⟩ : ∃ o : Nat, i.op = o := ⟨i.op.toNat, by omega⟩
  have hoN : i.op.toNat = o := by omega
  have hT : Tl (if (shp o).imm ≠ 0 then 32 :: itoaF i.imm else []) := by
    split
    · exact .inr ⟨_, rfl⟩
    · exact .inl rfl
  have hl : lineB i = nmB o ++ (regB (shp o).d i.d ++ (regB (shp o).a i.a ++ (regB (shp o).b i.b ++ if (shp o).imm ≠ 0 then 32 :: itoaF i.imm else []))) := by unfold lineB; rw [hoN]
  rw [hoN] at hd ha hb hi
  have hc := cut_tl (nm_blank o).1 (Tl.reg (shp o).d i.d (Tl.reg (shp o).a i.a (Tl.reg (shp o).b i.b hT)))
  rw [← hl] at hc
  have hI : insR o (cutAt 32 (lineB i)).2.1 = some i := by
    unfold insR
    rw [hc]
    simp only
    rw [regR_back hd (Tl.reg _ _ (Tl.reg _ _ hT))]
    simp only
    rw [regR_back ha (Tl.reg _ _ hT)]
    simp only
    rw [regR_back hb hT]
    simp only
    have him : immR (shp o).imm (if (shp o).imm ≠ 0 then 32 :: itoaF i.imm else []).tail = i.imm := by
      unfold immR
      by_cases hz : (shp o).imm = 0
      · rw [hz] at hi
        simp [immOk] at hi
        rw [hz, hi]; rfl
      · rw [if_pos hz, if_pos hz, List.tail_cons]
        unfold parseV
        rw [parse_itoaF i.imm h0 h1]
    rw [him, ← ho]
  have hk : opAt (cutAt 32 (lineB i)).1 = o := by rw [hc]; exact opAt_nm o (by omega)
  unfold refP
  rw [hk, Int.toNat_natCast, hI]
  rw [if_pos (by unfold opOk; simp; omega)]
  simp only
  rw [if_pos ⟨h, trivial⟩]
theorem immR_bounds (k : Nat) (r : List UInt8) : -9223372036854775808 ≤ immR k r ∧ immR k r ≤ 9223372036854775807 := by
  unfold immR
  split
  · exact parseV_bounds r
  · omega
theorem refP_some {s : List UInt8} {i : Ins} (h : refP s = some i) : mayI i 256 = true ∧ lineB i = s ∧ -9223372036854775808 ≤ i.imm ∧ i.imm ≤ 9223372036854775807 := by
  unfold refP at h
  split at h
  · split at h
    · cases h
    · rename_i x hx
      split at h
      · rename_i hc
        injection h with h
        subst h
        refine ⟨hc.1, hc.2, ?_⟩
        unfold insR at hx
        split at hx
        · cases hx
        · split at hx
          · cases hx
          · split at hx
            · cases hx
            · injection hx with hx
              subst hx
              exact immR_bounds _ _
      · cases h
  · cases h
theorem parP_imm {s : List UInt8} {i : Ins} (h : parP s = some i) : -9223372036854775808 ≤ i.imm ∧ i.imm ≤ 9223372036854775807 := by
  unfold parP at h
  simp only at h
  split at h
  · injection h with h
    subst h
    show -9223372036854775808 ≤ immP _ _ ∧ immP _ _ ≤ 9223372036854775807
    unfold immP
    split
    · exact parseV_bounds _
    · omega
  · cases h
theorem parP_eq (s : List UInt8) : parP s = refP s := by
  cases hp : parP s with
  | some i =>
    obtain ⟨h1, h2⟩ := parP_some hp
    have h3 := parP_imm hp
    rw [← h2, refP_back h1 h3.1 h3.2]
  | none =>
    cases hr : refP s with
    | none => rfl
    | some i =>
      obtain ⟨h1, h2, h3, h4⟩ := refP_some hr
      rw [← h2, parP_back h1 h3 h4] at hp
      cases hp
end Go.Proofs.YteblhklclcjonaaGreatDoor
