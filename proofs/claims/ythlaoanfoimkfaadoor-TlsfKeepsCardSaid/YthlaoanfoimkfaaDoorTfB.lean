/- Tlsf: what is used; the map of pieces; cut. No condition but what each theorem says. -/
import Derived.Test.YthlaoanfoimkfaaDoorTfA
import Derived.Test.YthlaoanfoimkfaaDoorThC
import Derived.Test.YthlaoanfoimkfaaDoorMaps
import Derived.Maps.Keyed
namespace Go.Proofs.YthlaoanfoimkfaaDoor
set_option linter.unusedVariables false
set_option linter.all false
def used (B : List Bk) : List Nat := (B.filter (fun b => decide (b.k = 0))).map (fun b => b.at' + 8)
theorem used_app (A B : List Bk) : used (A ++ B) = used A ++ used B := by simp [used]
theorem used_nil : used [] = [] := rfl
theorem used_cons (b : Bk) (B : List Bk) : used (b :: B) = if b.k = 0 then (b.at' + 8) :: used B else used B := by
  unfold used
  by_cases h : b.k = 0
  · simp [h]
  · simp [h]
theorem mem_used {B : List Bk} {x : Nat} : x ∈ used B ↔ ∃ b ∈ B, b.k = 0 ∧ b.at' + 8 = x := by
  simp [used, and_assoc]
theorem end_or {α : Type} (A : List α) : A = [] ∨ ∃ A' a, A = A' ++ [a] := by
  rcases List.eq_nil_or_concat A with h | ⟨A', a, h⟩
  · exact .inl h
  · exact .inr ⟨A', a, by rw [h, List.concat_eq_append]⟩
theorem backS_used (z : Nat) (C : List Bk) (L : Nat → List Nat) : used (backS z C L).2.1 = used C ∧ (∀ y ∈ (backS z C L).2.1, y ∈ C) := by
  cases C with
  | nil => exact ⟨rfl, fun y hy => hy⟩
  | cons c r =>
    unfold backS
    by_cases h : c.k = 1
    · simp only [h, if_true]
      exact ⟨by rw [used_cons, if_neg (by omega)], fun y hy => List.mem_cons_of_mem _ hy⟩
    · simp only [h, if_false]
      exact ⟨trivial, fun y hy => hy⟩
theorem frontS_used (A : List Bk) (p z : Nat) (L : Nat → List Nat) : used (frontS A p z L).1 = used A ∧ (∀ y ∈ (frontS A p z L).1, y ∈ A) := by
  rcases end_or A with rfl | ⟨A', a, rfl⟩
  · exact ⟨rfl, fun y hy => hy⟩
  · unfold frontS
    simp only [List.getLast?_append, List.getLast?_singleton, Option.some_or, List.dropLast_concat]
    by_cases h : a.k = 1
    · simp only [h, if_true]
      exact ⟨by rw [used_app, used_cons, if_neg (by omega)]; simp [used_nil], fun y hy => List.mem_append_left _ hy⟩
    · simp only [h, if_false]
      exact ⟨trivial, fun y hy => hy⟩
theorem freeS_used (A : List Bk) (p z : Nat) (C : List Bk) (L : Nat → List Nat) : used (freeS A p z C L).1 = used A ++ used C ∧ (∀ y ∈ (freeS A p z C L).1, y ∈ A ++ C ∨ y.k = 1) := by
  unfold freeS putS
  have h1 := backS_used z C L
  have h2 := frontS_used A p (backS z C L).1 (backS z C L).2.2
  refine ⟨by simp only [used_app, used_cons]; rw [h1.1, h2.1]; simp, fun y hy => ?_⟩
  rcases List.mem_append.1 hy with hy | hy
  · exact .inl (List.mem_append_left _ (h2.2 y hy))
  · rcases List.mem_cons.1 hy with rfl | hy
    · exact .inr rfl
    · exact .inl (List.mem_append_right _ (h1.2 y hy))
theorem cutS_used (fr : Bool) (A : List Bk) (p size z : Nat) (C : List Bk) (L : Nat → List Nat) : used (cutS fr A p size z C L).1 = used A ++ (p + 8) :: used C ∧ (∀ y ∈ (cutS fr A p size z C L).1, y ∈ A ++ C ∨ y.k = 1 ∨ y.k = 0) := by
  unfold cutS
  by_cases h : size - z < 16
  · rw [if_pos h]
    refine ⟨by simp [used_app, used_cons], fun y hy => ?_⟩
    rcases List.mem_append.1 hy with hy | hy
    · exact .inl (List.mem_append_left _ hy)
    · rcases List.mem_cons.1 hy with rfl | hy
      · exact .inr (.inr rfl)
      · exact .inl (List.mem_append_right _ hy)
  · rw [if_neg h]
    cases fr
    · simp only [Bool.false_eq_true, if_false]
      unfold putS
      refine ⟨by simp [used_app, used_cons, used_nil], fun y hy => ?_⟩
      rcases List.mem_append.1 hy with hy | hy
      · rcases List.mem_append.1 hy with hy | hy
        · exact .inl (List.mem_append_left _ hy)
        · rw [List.mem_singleton.1 hy]; exact .inr (.inr rfl)
      · rcases List.mem_cons.1 hy with rfl | hy
        · exact .inr (.inl rfl)
        · exact .inl (List.mem_append_right _ hy)
    · simp only [if_true]
      have hf := freeS_used (A ++ [⟨p, z, 0⟩]) (p + z) (size - z) C L
      refine ⟨by rw [hf.1]; simp [used_app, used_cons, used_nil], fun y hy => ?_⟩
      rcases hf.2 y hy with hy | hy
      · rcases List.mem_append.1 hy with hy | hy
        · rcases List.mem_append.1 hy with hy | hy
          · exact .inl (List.mem_append_left _ hy)
          · rw [List.mem_singleton.1 hy]; exact .inr (.inr rfl)
        · exact .inl (List.mem_append_right _ hy)
      · exact .inr (.inl hy)
/-! ## A class -/
theorem log2_bounds {z : Nat} (h : 1 ≤ z) : 2 ^ Nat.log2 z ≤ z ∧ z < 2 * 2 ^ Nat.log2 z := by
  have h1 := (Nat.le_log2 (n := z) (k := Nat.log2 z) (by omega)).1 (Nat.le_refl _)
  have h2 := (Nat.log2_lt (n := z) (k := Nat.log2 z + 1) (by omega)).1 (by omega)
  rw [Nat.pow_succ] at h2
  omega
theorem cls_val {z f : Nat} (hf : 4 ≤ f) (h1 : 2 ^ f ≤ z) (h2 : z < 2 * 2 ^ f) : cls z = 2 * (f - 4) + (if z < 3 * 2 ^ (f - 1) then 0 else 1) := by
  have hz : z ≠ 0 := by have : 0 < 2 ^ f := Nat.pos_of_ne_zero (by simp); omega
  have e : Nat.log2 z = f := by
    have a := (Nat.le_log2 hz).2 h1
    have b := (Nat.log2_lt hz (k := f + 1)).2 (by rw [Nat.pow_succ]; omega)
    omega
  unfold cls
  rw [e]
  obtain ⟨d, rfl⟩ : ∃ d, f = d + 1 := ⟨f - 1, by omega⟩
  rw [show d + 1 - 1 = d by omega]
  rw [Nat.pow_succ] at h1 h2
  have hp : 0 < 2 ^ d := Nat.pos_of_ne_zero (by simp)
  generalize 2 ^ d = q at *
  by_cases hc : z < 3 * q
  · rw [if_pos hc]
    have : z / q = 2 := by
      apply Nat.div_eq_of_lt_le <;> omega
    rw [this]
  · rw [if_neg hc]
    have : z / q = 3 := by
      apply Nat.div_eq_of_lt_le <;> omega
    rw [this]
theorem pow_mono {f g : Nat} (h : f < g) : 2 * 2 ^ f ≤ 2 ^ g := by
  have := Nat.pow_le_pow_right (n := 2) (by omega) (show f + 1 ≤ g by omega)
  rw [Nat.pow_succ] at this
  omega
theorem cls_mono {x y : Nat} (hx : 16 ≤ x) (h : x ≤ y) : cls x ≤ cls y := by
  obtain ⟨a1, a2⟩ := log2_bounds (z := x) (by omega)
  obtain ⟨b1, b2⟩ := log2_bounds (z := y) (by omega)
  have fx : 4 ≤ Nat.log2 x := (Nat.le_log2 (by omega)).2 hx
  have fy : 4 ≤ Nat.log2 y := (Nat.le_log2 (by omega)).2 (by omega)
  rw [cls_val fx a1 a2, cls_val fy b1 b2]
  rcases Nat.lt_trichotomy (Nat.log2 x) (Nat.log2 y) with q | q | q
  · split <;> split <;> omega
  · rw [q]
    split <;> split <;> omega
  · have := pow_mono q
    omega
/-- A block of the class that is looked for is long enough. -/
theorem floor_le {z s : Nat} (hz : 16 ≤ z) (hs : 16 ≤ s) (h : floor z ≤ cls s) : z ≤ s := by
  rcases Nat.lt_or_ge s z with q | q
  · exfalso
    have hm := cls_mono hs (show s ≤ z - 1 by omega)
    obtain ⟨a1, a2⟩ := log2_bounds (z := z) (by omega)
    have fz : 4 ≤ Nat.log2 z := (Nat.le_log2 (by omega)).2 hz
    unfold floor at h
    generalize Nat.log2 z = f at *
    obtain ⟨d, rfl⟩ : ∃ d, f = d + 1 := ⟨f - 1, by omega⟩
    rw [show d + 1 - 1 = d by omega] at h
    have hp : 0 < 2 ^ d := Nat.pos_of_ne_zero (by simp)
    have e1 : 2 ^ (d + 1) = 2 * 2 ^ d := by rw [Nat.pow_succ]; omega
    have e2 : 2 ^ (d + 2) = 4 * 2 ^ d := by rw [Nat.pow_succ, Nat.pow_succ]; omega
    have e3 : 2 ^ (d + 1 - 1) = 2 ^ d := by rw [show d + 1 - 1 = d by omega]
    have e4 : 2 ^ (d + 2 - 1) = 2 * 2 ^ d := by rw [show d + 2 - 1 = d + 1 by omega, e1]
    by_cases hz1 : z = 2 ^ (d + 1)
    · -- z - 1 is of the class below
      have hd : 4 ≤ d := by
        rcases Nat.lt_or_ge d 4 with r | r
        · have : d = 3 := by omega
          subst this
          simp at hz1
          omega
        · exact r
      have c1 := cls_val (z := z - 1) hd (by omega) (by omega)
      have c2 := cls_val (z := z + 2 ^ d - 1) fz (by omega) (by omega)
      rw [c2] at h
      rw [c1] at hm
      split at hm <;> split at h <;> omega
    · have c1 := cls_val (z := z - 1) fz (by omega) (by omega)
      rw [c1] at hm
      by_cases hz2 : z + 2 ^ d - 1 < 4 * 2 ^ d
      · have c2 := cls_val (z := z + 2 ^ d - 1) fz (by omega) (by omega)
        rw [c2] at h
        split at hm <;> split at h <;> omega
      · have c2 := cls_val (z := z + 2 ^ d - 1) (f := d + 2) (by omega) (by omega) (by omega)
        rw [c2] at h
        split at hm <;> split at h <;> omega
  · exact q
theorem need_is (n : Nat) : 16 ≤ need n ∧ need n % 8 = 0 ∧ n + 8 ≤ need n ∧ (n ≤ 65536 → need n ≤ 65544) := by
  unfold need
  omega
end Go.Proofs.YthlaoanfoimkfaaDoor
namespace Go.Proofs.YthlaoanfoimkfaaDoor
open Go.RowKit
open Go.Maps (Keyed)
set_option linter.unusedVariables false
set_option linter.all false
set_option maxRecDepth 100000
theorem keyed : Keyed Tryd.prog 3 := Go.Maps.int_keyed Tryd.underlying3
theorem keyI (x : Int) (h : -9223372036854775808 ≤ x ∧ x ≤ 9223372036854775807) : ∃ l, keyOf Tryd.prog 3 (.int .i64 x) = some l := by
  refine ⟨.int .i64 x, ?_⟩
  have : (Lit.int .i64 x).wf = true := WalkArith.wf_i64 (by omega)
  simp [keyOf, mapKey, Tryd.underlying3, this]
/-- What the map answers: of each offset of a list, true. -/
def pcs (U : List Nat) : Value → Option Value := fun k => match k with
  | .int .i64 (.ofNat x) => if x ∈ U then some (.bool true) else none
  | _ => none
theorem pcs_in {U : List Nat} {x : Nat} (h : x ∈ U) : pcs U (.int .i64 (x : Int)) = some (.bool true) := if_pos h
theorem pcs_out {U : List Nat} {x : Nat} (h : x ∉ U) : pcs U (.int .i64 (x : Int)) = none := if_neg h
theorem pcs_neg {U : List Nat} {x : Int} (h : x < 0) : pcs U (.int .i64 x) = none := by
  obtain ⟨n, rfl⟩ := Int.eq_negSucc_of_lt_zero h
  rfl
theorem pcs_key {U : List Nat} {k v : Value} (h : pcs U k = some v) : ∃ x ∈ U, k = .int .i64 (x : Int) ∧ v = .bool true := by
  unfold pcs at h
  split at h
  · next x =>
    split at h
    · next hx => exact ⟨x, hx, rfl, by cases h; rfl⟩
    · cases h
  · cases h
def Pc (w : World) (mb : Nat) (U : List Nat) : Prop := Mp Tryd.prog 3 w mb (pcs U) U.length ∧ U.Nodup
section
variable {w w' : World} {h g gb cap mb N : Nat} {m : Nat → Nat} {S : List Nat} {B A C : List Bk} {b : Bk} {L : Nat → List Nat} {U : List Nat}
theorem Pc.only (H : Pc w mb U) (o : Only S w w') (hb : mb ∉ S) : Pc w' mb U := ⟨H.1.only o hb, H.2⟩
theorem Pc.ne (H : Pc w mb U) {g : Nat} {t : TypeId} {cs : Array Value} (hg : Blk w g t cs) : mb ≠ g := H.1.ne_blk hg
theorem Pc.nil (H : Mp Tryd.prog 3 w mb (fun _ => none) 0) : Pc w mb [] := ⟨H.congr fun k => by
  cases hk : pcs [] k with
  | none => rfl
  | some v => obtain ⟨x, hx, _⟩ := pcs_key hk; simp at hx, List.nodup_nil⟩
theorem Pc.lookIn (H : Pc w mb U) {x : Nat} (hx : x ∈ U) (hb : x < 9223372036854775808) : (Instr.lookup 74 (.map (some mb)) (.int .i64 (x : Int)) false).run Tryd.prog w = .ok (.bool true) w := by
  obtain ⟨l, hl⟩ := keyI x (by omega)
  exact (H.1.look keyed Tryd.underlying74 hl (pcs_in hx)).1
theorem zero4 (w : World) : (zeroValue 4).run Tryd.prog w = .ok (.bool false) w := Tryd.zeroValue4 w
theorem Pc.lookOut (H : Pc w mb U) {x : Int} (hx : ∀ y ∈ U, x ≠ (y : Int)) (hb : -9223372036854775808 ≤ x ∧ x ≤ 9223372036854775807) : (Instr.lookup 74 (.map (some mb)) (.int .i64 x) false).run Tryd.prog w = .ok (.bool false) w := by
  obtain ⟨l, hl⟩ := keyI x hb
  have : pcs U (.int .i64 x) = none := by
    cases hk : pcs U (.int .i64 x) with
    | none => rfl
    | some v =>
      obtain ⟨y, hy, e, _⟩ := pcs_key hk
      cases e
      exact absurd rfl (hx y hy)
  exact (H.1.miss keyed Tryd.underlying74 (zero4 w) hl this).1
/-- One offset more, if it is not there. -/
def addU (U : List Nat) (x : Nat) : List Nat := if x ∈ U then U else x :: U
theorem mem_addU {U : List Nat} {x y : Nat} : y ∈ addU U x ↔ y = x ∨ y ∈ U := by
  unfold addU
  split
  · next h => exact ⟨.inr, fun hh => hh.elim (fun e => e ▸ h) id⟩
  · exact List.mem_cons
theorem Pc.put (H : Pc w mb U) (x : Nat) (hb : x < 9223372036854775808) : ∃ w', (Instr.mapUpdate 74 (.map (some mb)) (.int .i64 (x : Int)) (.bool true)).run Tryd.prog w = .ok () w' ∧ Pc w' mb (addU U x) ∧ Only [mb] w w' := by
  obtain ⟨l, hl⟩ := keyI x (by omega)
  obtain ⟨w1, e, M, o⟩ := H.1.put keyed Tryd.underlying74 hl (.bool true) (pcs (addU U x)) (pcs_in (mem_addU.2 (.inl rfl))) (fun k hk => by
    have e1 : ∀ y : Nat, k = .int .i64 (y : Int) → (y ∈ addU U x ↔ y ∈ U) := fun y e => by
      rw [mem_addU]
      exact ⟨fun h => h.elim (fun e2 => absurd (by rw [e, e2]) hk) id, .inr⟩
    cases h1 : pcs U k with
    | some v =>
      obtain ⟨y, hy, e, rfl⟩ := pcs_key h1
      rw [e]
      exact pcs_in ((e1 y e).2 hy)
    | none =>
      cases h2 : pcs (addU U x) k with
      | none => rfl
      | some v =>
        obtain ⟨y, hy, e, rfl⟩ := pcs_key h2
        rw [e, pcs_in ((e1 y e).1 hy)] at h1
        cases h1)
  refine ⟨w1, e, ⟨?_, ?_⟩, o⟩
  · by_cases hx : x ∈ U
    · rw [pcs_in hx] at M
      simp only [Option.isSome_some, if_true] at M
      simpa [addU, hx] using M
    · rw [pcs_out hx] at M
      simp at M
      simpa [addU, hx] using M
  · unfold addU
    split
    · exact H.2
    · next hx => exact List.nodup_cons.2 ⟨hx, H.2⟩
theorem Pc.del {ty : TypeId} (H : Pc w mb U) {x : Nat} (hx : x ∈ U) (hb : x < 9223372036854775808) : ∃ w', (Builtin.delete_ #[74, 3] ty #[.map (some mb), .int .i64 (x : Int)]).run Tryd.prog w = .ok (.tuple #[]) w' ∧ Pc w' mb (U.erase x) ∧ Only [mb] w w' := by
  obtain ⟨l, hl⟩ := keyI x (by omega)
  obtain ⟨w1, e, M, o⟩ := H.1.del (ty := ty) keyed Tryd.underlying74 hl (pcs (U.erase x)) (pcs_out (by rw [H.2.mem_erase_iff]; simp)) (fun k hk => by
    have e1 : ∀ y : Nat, k = .int .i64 (y : Int) → (y ∈ U.erase x ↔ y ∈ U) := fun y e => by
      rw [H.2.mem_erase_iff]
      exact ⟨fun h => h.2, fun h => ⟨fun e2 => absurd (by rw [e, e2]) hk, h⟩⟩
    cases h1 : pcs U k with
    | some v =>
      obtain ⟨y, hy, e, rfl⟩ := pcs_key h1
      rw [e]
      exact pcs_in ((e1 y e).2 hy)
    | none =>
      cases h2 : pcs (U.erase x) k with
      | none => rfl
      | some v =>
        obtain ⟨y, hy, e, rfl⟩ := pcs_key h2
        rw [e, pcs_in ((e1 y e).1 hy)] at h1
        cases h1)
  refine ⟨w1, e, ⟨?_, H.2.erase x⟩, o⟩
  rw [pcs_in hx] at M
  simp only [Option.isSome_some, if_true] at M
  rw [List.length_erase_of_mem hx]
  exact M
end
end Go.Proofs.YthlaoanfoimkfaaDoor
namespace Go.Proofs.YthlaoanfoimkfaaDoor
open Go.RowKit
set_option linter.unusedVariables false
set_option linter.all false
set_option maxRecDepth 100000
section
variable {w w' : World} {h g gb cap mb N : Nat} {m : Nat → Nat} {S : List Nat} {B A C : List Bk} {b : Bk} {L : Nat → List Nat} {U : List Nat}
theorem Pc.apart (HP : Pc w mb U) (H : Me w h g gb cap mb N m) (hN : 0 < N) : mb ≠ h ∧ mb ≠ g ∧ mb ≠ gb := by
  obtain ⟨bs, c, hA, e1, _⟩ := H.mem
  refine ⟨HP.ne H.hdr, HP.ne hA.hdr, ?_⟩
  obtain ⟨⟨es, clock, h1, _⟩, _⟩ := HP
  have hc := hA.cell 0 (by omega)
  rintro rfl
  unfold World.cell? at hc
  rw [h1.heap] at hc
  simp at hc
/-- The function that takes the rest: free, or put. -/
def restF (F h : Nat) : Value := .func (.func F) #[.pointer (some ⟨h, 0, none⟩)] #[]
set_option maxHeartbeats 2000000 in
theorem cut_no (H : Me w h g gb cap mb N m) (hN : 0 < N) (HP : Pc w mb U) (F : Nat) {p size z : Nat} (hp : p < 65536) (hs : size < 65536) (hz : z < 80000) (hlt : (size : Int) - (z : Int) < 16) {J : (Nat → Nat) → Prop}
    (HL : Calls Tryd.prog 76 #[.pointer (some ⟨h, 0, none⟩), .int .i64 p, .int .i64 size, .bool false] w fun e w' => e = .returned (.tuple #[]) ∧ Only [g, gb] w w' ∧ ∃ m', Me w' h g gb cap mb N m' ∧ J m') :
    Calls Tryd.prog 49 #[.pointer (some ⟨h, 0, none⟩), .int .i64 p, .int .i64 size, .int .i64 z, restF F h] w fun e w' => e = .returned (.int .i64 (p + 8 : Nat)) ∧ Only [g, gb, mb] w w' ∧ (∃ m', Me w' h g gb cap mb N m' ∧ J m') ∧ Pc w' mb (addU U (p + 8)) := by
  have ha := HP.apart H hN
  have HH := Lib.hid H
  have HQ := Lib.hid HP
  replace HL := Lib.hid HL
  clear H HP
  unfold restF
  go_enter Tryd.func49, Tryd.ntmps49
  go_wp2_with (first
    | (go_at_call 76; (with_reducible refine HL.out.mono ?_); rintro e w1 ⟨rfl, o1, m1, H1, j1⟩; have k1 : w1.cell? ⟨h, 1, none⟩ = some (.map (some mb)) := (by simpa using H1.hdr.cell 1); obtain ⟨w2, e2, P2, o2⟩ := (HQ.out.only o1 (by simp; exact ha.2)).put (p + 8) (by omega); rw [show ((p + 8 : Nat) : Int) = (p : Int) + 8 by omega] at e2)
    | (rw [e2]; simp only [Result.andThen]))
  go_ret
  exact ⟨by simp, (o1.mono (by simp)).trans o2 (by simp), ⟨m1, H1.only o2 (by simp; exact fun e => ha.1 e.symm) (by simp; exact fun e => ha.2.1 e.symm) (by simp; exact fun e => ha.2.2 e.symm), j1⟩, P2⟩
set_option maxHeartbeats 2000000 in
theorem cut_put (H : Me w h g gb cap mb N m) (hN : 0 < N) (HP : Pc w mb U) {p size z : Nat} (hp : p < 65536) (hs : size < 65536) (hz : z < 80000) (hlt : ¬ (size : Int) - (z : Int) < 16) {J1 J2 : (Nat → Nat) → Prop}
    (HL : Calls Tryd.prog 76 #[.pointer (some ⟨h, 0, none⟩), .int .i64 p, .int .i64 z, .bool false] w fun e w' => e = .returned (.tuple #[]) ∧ Only [g, gb] w w' ∧ ∃ m', Me w' h g gb cap mb N m' ∧ J1 m')
    (HR : ∀ m1 w1, J1 m1 → Me w1 h g gb cap mb N m1 → Calls Tryd.prog 45 #[.pointer (some ⟨h, 0, none⟩), .int .i64 ((p : Int) + (z : Int)), .int .i64 ((size : Int) - (z : Int))] w1 fun e w' => e = .returned (.tuple #[]) ∧ Only [g, gb] w1 w' ∧ ∃ m', Me w' h g gb cap mb N m' ∧ J2 m') :
    Calls Tryd.prog 49 #[.pointer (some ⟨h, 0, none⟩), .int .i64 p, .int .i64 size, .int .i64 z, restF 45 h] w fun e w' => e = .returned (.int .i64 (p + 8 : Nat)) ∧ Only [g, gb, mb] w w' ∧ (∃ m', Me w' h g gb cap mb N m' ∧ J2 m') ∧ Pc w' mb (addU U (p + 8)) := by
  have ha := HP.apart H hN
  have HH := Lib.hid H
  have HQ := Lib.hid HP
  replace HL := Lib.hid HL
  replace HR := Lib.hid HR
  clear H HP
  unfold restF
  go_enter Tryd.func49, Tryd.ntmps49
  go_wp2_with (first
    | (go_at_call 76; (with_reducible refine HL.out.mono ?_); rintro e w1 ⟨rfl, o1, m1, H1, j1⟩)
    | (go_at_call 45; (with_reducible refine (HR.out _ _ j1 H1).mono ?_); rintro e w3 ⟨rfl, o3, m3, H3, j3⟩; have k1 : w3.cell? ⟨h, 1, none⟩ = some (.map (some mb)) := (by simpa using H3.hdr.cell 1); obtain ⟨w2, e2, P2, o2⟩ := ((HQ.out.only o1 (by simp; exact ha.2)).only o3 (by simp; exact ha.2)).put (p + 8) (by omega); rw [show ((p + 8 : Nat) : Int) = (p : Int) + 8 by omega] at e2)
    | (rw [e2]; simp only [Result.andThen]))
  go_ret
  exact ⟨by simp, ((o1.trans o3 (by simp)).mono (by simp)).trans o2 (by simp), ⟨m3, H3.only o2 (by simp; exact fun e => ha.1 e.symm) (by simp; exact fun e => ha.2.1 e.symm) (by simp; exact fun e => ha.2.2 e.symm), j3⟩, P2⟩
set_option maxHeartbeats 2000000 in
theorem cut_free (H : Me w h g gb cap mb N m) (hN : 0 < N) (HP : Pc w mb U) {p size z : Nat} (hp : p < 65536) (hs : size < 65536) (hz : z < 80000) (hlt : ¬ (size : Int) - (z : Int) < 16) {J1 J2 : (Nat → Nat) → Prop}
    (HL : Calls Tryd.prog 76 #[.pointer (some ⟨h, 0, none⟩), .int .i64 p, .int .i64 z, .bool false] w fun e w' => e = .returned (.tuple #[]) ∧ Only [g, gb] w w' ∧ ∃ m', Me w' h g gb cap mb N m' ∧ J1 m')
    (HR : ∀ m1 w1, J1 m1 → Me w1 h g gb cap mb N m1 → Calls Tryd.prog 52 #[.pointer (some ⟨h, 0, none⟩), .int .i64 ((p : Int) + (z : Int)), .int .i64 ((size : Int) - (z : Int))] w1 fun e w' => e = .returned (.tuple #[]) ∧ Only [g, gb] w1 w' ∧ ∃ m', Me w' h g gb cap mb N m' ∧ J2 m') :
    Calls Tryd.prog 49 #[.pointer (some ⟨h, 0, none⟩), .int .i64 p, .int .i64 size, .int .i64 z, restF 52 h] w fun e w' => e = .returned (.int .i64 (p + 8 : Nat)) ∧ Only [g, gb, mb] w w' ∧ (∃ m', Me w' h g gb cap mb N m' ∧ J2 m') ∧ Pc w' mb (addU U (p + 8)) := by
  have ha := HP.apart H hN
  have HH := Lib.hid H
  have HQ := Lib.hid HP
  replace HL := Lib.hid HL
  replace HR := Lib.hid HR
  clear H HP
  unfold restF
  go_enter Tryd.func49, Tryd.ntmps49
  go_wp2_with (first
    | (go_at_call 76; (with_reducible refine HL.out.mono ?_); rintro e w1 ⟨rfl, o1, m1, H1, j1⟩)
    | (go_at_call 52; (with_reducible refine (HR.out _ _ j1 H1).mono ?_); rintro e w3 ⟨rfl, o3, m3, H3, j3⟩; have k1 : w3.cell? ⟨h, 1, none⟩ = some (.map (some mb)) := (by simpa using H3.hdr.cell 1); obtain ⟨w2, e2, P2, o2⟩ := ((HQ.out.only o1 (by simp; exact ha.2)).only o3 (by simp; exact ha.2)).put (p + 8) (by omega); rw [show ((p + 8 : Nat) : Int) = (p : Int) + 8 by omega] at e2)
    | (rw [e2]; simp only [Result.andThen]))
  go_ret
  exact ⟨by simp, ((o1.trans o3 (by simp)).mono (by simp)).trans o2 (by simp), ⟨m3, H3.only o2 (by simp; exact fun e => ha.1 e.symm) (by simp; exact fun e => ha.2.1 e.symm) (by simp; exact fun e => ha.2.2 e.symm), j3⟩, P2⟩
theorem St.trans {B0 B1 B2 : List Bk} {L1 L2 : Nat → List Nat} {lo hi lo2 hi2 : Nat} {m1 m2 : Nat → Nat} (h1 : St N m B0 lo hi B1 L1 m1) (h2 : St N m1 B1 lo2 hi2 B2 L2 m2)
    (hs : ∀ x, Off B0 x → (x < lo ∨ hi ≤ x) → Off B1 x ∧ (x < lo2 ∨ hi2 ≤ x)) : St N m B0 lo hi B2 L2 m2 :=
  ⟨h2.inv, fun x hx hl => (h2.fr x (hs x hx hl).1 (hs x hx hl).2).trans (h1.fr x hx hl)⟩
/-- cut: the block has what is needed, the rest is put (or freed). -/
theorem cut_any (H : Me w h g gb cap mb N m) (HP : Pc w mb U) (hI : Inv N m (A ++ b :: C) L) (hk : b.k = 2) (hn : ∀ y ∈ A ++ C, y.k ≠ 2) (fr : Bool) {z : Nat} (hz : 16 ≤ z) (hz8 : z % 8 = 0) (hz2 : z < 80000) :
    Calls Tryd.prog 49 #[.pointer (some ⟨h, 0, none⟩), .int .i64 b.at', .int .i64 b.size, .int .i64 z, restF (if fr then 52 else 45) h] w fun e w' => e = .returned (.int .i64 (b.at' + 8 : Nat)) ∧ Only [g, gb, mb] w w' ∧
      (∃ m', Me w' h g gb cap mb N m' ∧ St N m (A ++ b :: C) (b.at' + z) (b.at' + b.size) (cutS fr A b.at' b.size z C L).1 (cutS fr A b.at' b.size z C L).2 m') ∧ Pc w' mb (addU U (b.at' + 8)) := by
  have hpos := hI.tile.pos
  have hsz := hI.size
  by_cases hlt : b.size - z < 16
  · have e0 : cutS fr A b.at' b.size z C L = (A ++ ⟨b.at', b.size, 0⟩ :: C, L) := by unfold cutS; rw [if_pos hlt]
    rw [e0]
    refine cut_no H (by omega) HP _ (by omega) (by omega) hz2 (by omega) ?_
    refine (lay_any H (k := 0) (p := b.at') (z := b.size) (by omega) (by omega) (by omega) (by omega) (by omega) (by omega) (by omega)).mono ?_
    rintro e w1 ⟨rfl, o1, H1⟩
    have hl := lay_inv hI hk
    exact ⟨rfl, o1, _, H1, hl.1, fun x hx _ => hl.2 x hx⟩
  · have hbb : b = ⟨b.at', b.size, 2⟩ := by rw [← hk]
    have i1 := split_inv hI hk hz hz8 (by omega)
    have hl := lay_inv (b := ⟨b.at', z, 2⟩) i1 rfl
    have HL : Calls Tryd.prog 76 #[.pointer (some ⟨h, 0, none⟩), .int .i64 b.at', .int .i64 z, .bool false] w fun e w' => e = .returned (.tuple #[]) ∧ Only [g, gb] w w' ∧ ∃ m', Me w' h g gb cap mb N m' ∧ St N m (A ++ b :: C) (b.at' + z) (b.at' + b.size) ((A ++ [⟨b.at', z, 0⟩]) ++ ⟨b.at' + z, b.size - z, 2⟩ :: C) L m' := by
      refine (lay_any H (k := 0) (p := b.at') (z := z) (by omega) (by omega) (by omega) (by omega) (by omega) (by omega) (by omega)).mono ?_
      rintro e w1 ⟨rfl, o1, H1⟩
      refine ⟨rfl, o1, _, H1, by simpa using hl.1, fun x hx hlx => hl.2 x ?_⟩
      refine ⟨hx.1, fun y hy => ?_⟩
      rcases List.mem_append.1 hy with hy | hy
      · exact hx.2 y (List.mem_append_left _ hy)
      · rcases List.mem_cons.1 hy with rfl | hy
        · have := hx.2 b (by simp)
          exact ⟨this.1, this.2.1, fun h1 => absurd h1 (by simp)⟩
        · rcases List.mem_cons.1 hy with rfl | hy
          · refine ⟨?_, ?_, fun h1 => absurd h1 (by simp)⟩
            · show x ≠ b.at' + z
              omega
            · show x ≠ b.at' + z + 4
              omega
          · exact hx.2 y (by simp [hy])
    have hoff : ∀ x, Off (A ++ b :: C) x → (x < b.at' + z ∨ b.at' + b.size ≤ x) → Off ((A ++ [⟨b.at', z, 0⟩]) ++ ⟨b.at' + z, b.size - z, 2⟩ :: C) x := by
      intro x hx hlx
      refine ⟨hx.1, fun y hy => ?_⟩
      rcases List.mem_append.1 hy with hy | hy
      · rcases List.mem_append.1 hy with hy | hy
        · exact hx.2 y (List.mem_append_left _ hy)
        · rw [List.mem_singleton.1 hy]
          have := hx.2 b (by simp)
          exact ⟨this.1, this.2.1, fun h1 => absurd h1 (by simp)⟩
      · rcases List.mem_cons.1 hy with rfl | hy
        · refine ⟨?_, ?_, fun h1 => absurd h1 (by simp)⟩
          · show x ≠ b.at' + z
            omega
          · show x ≠ b.at' + z + 4
            omega
        · exact hx.2 y (by simp [hy])
    have hn2 : ∀ y ∈ (A ++ [⟨b.at', z, 0⟩]) ++ C, y.k ≠ 2 := fun y hy => by
      rcases List.mem_append.1 hy with hy | hy
      · rcases List.mem_append.1 hy with hy | hy
        · exact hn y (List.mem_append_left _ hy)
        · rw [List.mem_singleton.1 hy]; simp
      · exact hn y (List.mem_append_right _ hy)
    have ea : (b.at' : Int) + (z : Int) = ((b.at' + z : Nat) : Int) := by omega
    have es : (b.size : Int) - (z : Int) = ((b.size - z : Nat) : Int) := by omega
    cases fr
    · have e0 : cutS false A b.at' b.size z C L = putS (A ++ [⟨b.at', z, 0⟩]) (b.at' + z) (b.size - z) C L := by unfold cutS; rw [if_neg hlt]; rfl
      rw [e0]
      refine cut_put H (by omega) HP (by omega) (by omega) hz2 (by omega) HL fun m1 w1 J1 H1 => ?_
      rw [ea, es]
      refine (stage_put H1 J1.inv).mono ?_
      rintro e w2 ⟨rfl, o2, m2, H2, i2, f2⟩
      refine ⟨rfl, o2, m2, H2, i2, fun x hx hlx => (f2 x (hoff x hx hlx) (by omega) (by omega)).trans (J1.fr x hx hlx)⟩
    · have e0 : cutS true A b.at' b.size z C L = freeS (A ++ [⟨b.at', z, 0⟩]) (b.at' + z) (b.size - z) C L := by unfold cutS; rw [if_neg hlt]; rfl
      rw [e0]
      refine cut_free H (by omega) HP (by omega) (by omega) hz2 (by omega) HL fun m1 w1 J1 H1 => ?_
      rw [ea, es]
      refine (free_any (b := ⟨b.at' + z, b.size - z, 2⟩) H1 J1.inv rfl hn2).mono ?_
      rintro e w2 ⟨rfl, o2, m2, H2, s2⟩
      refine ⟨rfl, o2, m2, H2, J1.trans s2 fun x hx hlx => ⟨hoff x hx hlx, ?_⟩⟩
      show x < b.at' + z ∨ b.at' + z + (b.size - z) ≤ x
      omega
end
end Go.Proofs.YthlaoanfoimkfaaDoor
