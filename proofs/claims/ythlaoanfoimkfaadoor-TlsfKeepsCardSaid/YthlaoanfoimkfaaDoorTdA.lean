/- Tlsf: the document's heap. No condition but what each theorem says. -/
import Derived.Test.YthlaoanfoimkfaaDoorThD
import Derived.LoopTactic
import Derived.Test.YthlaoanfoimkfaaDoorAr4
namespace Go.Proofs.YthlaoanfoimkfaaDoor
open Go.RowKit
set_option linter.unusedVariables false
set_option linter.all false
set_option maxRecDepth 100000
section
variable {w w' : World}
theorem power_any {z : Nat} (w : World) (h0 : 16 ≤ z) (h1 : z < 131072) :
    Calls Tryd.prog 84 #[.int .i64 z] w fun e w' => e = .returned (.tuple #[.int .i64 (2 ^ Nat.log2 z : Nat), .int .i64 (Nat.log2 z : Nat)]) ∧ w = w' := by
  have hf := log2_bounds (z := z) (by omega)
  have hf1 : Nat.log2 z < 17 := (Nat.log2_lt (by omega)).2 (by omega)
  generalize Nat.log2 z = F at *
  have HF := Lib.hid hf
  clear hf
  go_enter Tryd.func84, Tryd.ntmps84
  go_wp2

  go_loopw [4, 5] (fun vp vf wr => ∃ f p : Nat, f ≤ F ∧ p = 2 ^ f ∧ vp = .int .i64 p ∧ vf = .int .i64 f ∧ w = wr) (fun _ vf _ => F - (intOf vf).toNat)
  case atStart => exact ⟨0, 1, by omega, rfl, rfl, rfl, rfl⟩
  case round =>
    obtain ⟨f, p, h1, hp, rfl, rfl, rfl⟩ := hrel
    have hb := HF.out
    have hpp : p ≤ 2 ^ F := by rw [hp]; exact Nat.pow_le_pow_right (by omega) h1
    have hpb : p < 131072 := by omega
    by_cases hq : f < F
    · have hle : 2 * p ≤ 2 ^ F := by rw [hp]; exact pow_mono hq
      have hc : (p : Int) ≤ (z : Int) / 2 := by omega
      have HP := Lib.hid hp
      clear hp
      go_wp2
      go_roundw
      case rel => exact ⟨f + 1, p * 2, by omega, by rw [HP.out, Nat.pow_succ], by go_num, by go_num, by first | rfl | trivial⟩
      case measure => simp [intOf]; omega
    · obtain rfl : f = F := by omega
      have hc : ¬ (p : Int) ≤ (z : Int) / 2 := by omega
      have HP := Lib.hid hp
      clear hp
      go_wp2
      go_ret2
      have e : ((p : Nat) : Int) = (2 : Int) ^ f := by rw [HP.out]; simp
      exact ⟨by simp [e], rfl⟩
theorem dclass_any {z : Nat} (w : World) (h0 : 16 ≤ z) (h1 : z < 131072) :
    Calls Tryd.prog 60 #[.int .i64 z] w fun e w' => e = .returned (.int .i64 (cls z)) ∧ w = w' := by
  have hP := Lib.hid (power_any w h0 h1)
  have hf := log2_bounds (z := z) (by omega)
  have hf0 : 4 ≤ Nat.log2 z := (Nat.le_log2 (by omega)).2 h0
  have hf1 : Nat.log2 z < 17 := (Nat.log2_lt (by omega)).2 (by omega)
  have hc := cls_val hf0 hf.1 hf.2
  have hpe : 2 ^ Nat.log2 z = 2 * 2 ^ (Nat.log2 z - 1) := by
    obtain ⟨d, hd⟩ : ∃ d, Nat.log2 z = d + 1 := ⟨Nat.log2 z - 1, by omega⟩
    rw [hd, Nat.pow_succ]
    simp
    omega
  generalize Nat.log2 z = F at *
  generalize 2 ^ F = p at *
  generalize 2 ^ (F - 1) = q at *
  rw [hc]
  clear hc
  by_cases hq : z < 3 * q
  · rw [if_pos hq]
    have hg : ¬ (p : Int) + (p : Int) / 2 ≤ (z : Int) := by omega
    have e1 : ((2 * (F - 4) + 0 : Nat) : Int) = 2 * ((F : Int) - 4) := by omega
    rw [e1]
    have hpz : p < 131072 := by omega
    clear e1 hpe hq hf
    go_enter Tryd.func60, Tryd.ntmps60
    go_wp2_with (go_at_call 84; (with_reducible refine hP.out.mono ?_); rintro e w' ⟨rfl, rfl⟩)
    go_ret
    exact ⟨rfl, rfl⟩
  · rw [if_neg hq]
    have hg : (p : Int) + (p : Int) / 2 ≤ (z : Int) := by omega
    have e1 : ((2 * (F - 4) + 1 : Nat) : Int) = 2 * ((F : Int) - 4) + 1 := by omega
    rw [e1]
    have hpz : p < 131072 := by omega
    clear e1 hpe hq hf
    go_enter Tryd.func60, Tryd.ntmps60
    go_wp2_with (go_at_call 84; (with_reducible refine hP.out.mono ?_); rintro e w' ⟨rfl, rfl⟩)
    go_ret
    exact ⟨rfl, rfl⟩
theorem dneed_any {n : Nat} (w : World) (h1 : n ≤ 65536) :
    Calls Tryd.prog 63 #[.int .i64 n] w fun e w' => e = .returned (.int .i64 (need n)) ∧ w = w' := by
  have hm : (max 16 (((n : Int) + 7) / 8 * 8 + 8) : Int) = (need n : Nat) := by unfold need; omega
  generalize need n = r at *
  go_enter Tryd.func63, Tryd.ntmps63
  go_wp2
  go_ret
  exact ⟨by simp [hm], rfl⟩
theorem dmay_any (n : Int) (w : World) : Calls Tryd.prog 61 #[.int .i64 n] w fun e w' => e = .returned (.bool (decide (1 ≤ n ∧ n ≤ 65536))) ∧ w = w' := by
  by_cases h1 : 1 ≤ n
  · by_cases h2 : n ≤ 65536
    · go_enter Tryd.func61, Tryd.ntmps61
      go_wp2
      go_ret
      exact ⟨by simp [h1, h2], rfl⟩
    · go_enter Tryd.func61, Tryd.ntmps61
      go_wp2
      go_ret
      exact ⟨by simp [h1, h2], rfl⟩
  · go_enter Tryd.func61, Tryd.ntmps61
    go_wp2
    go_ret
    exact ⟨by simp; omega, rfl⟩
end
end Go.Proofs.YthlaoanfoimkfaaDoor
namespace Go.Proofs.YthlaoanfoimkfaaDoor
open Go.RowKit
set_option linter.unusedVariables false
set_option linter.all false
set_option maxRecDepth 100000
/-- A block that no row of the document's heap lies in. -/
def xc [HAdd Unit Unit Nat] : Nat := HAdd.hAdd () ()
/-- A row of numbers, elsewhere than in that block. -/
def Row [HAdd Unit Unit Nat] (W : World) (A : Option Addr) (l : List Nat) : Prop := 0 < l.length → ∃ (g : Nat) (cs : Array Value), A = some ⟨g, 0, none⟩ ∧ Blk W g 3 cs ∧ (∀ (j t : Nat), l[j]? = some t → cs[j]? = some (.int .i64 (t : Int))) ∧ g ≠ xc
/-- The blocks' row. -/
def BRow (w : World) (gB : Nat) (B : List Bk) : Prop := ∃ cs : Array Value, Blk w gB 42 cs ∧ ∀ (j : Nat) (b : Bk), B[j]? = some b → cs[j * 3]? = some (.int .i64 b.at') ∧ cs[j * 3 + 1]? = some (.int .i64 b.size) ∧ cs[j * 3 + 2]? = some (.bool (b.k == 1))
/-- None of these blocks is a row of numbers. -/
def NoRow [HAdd Unit Unit Nat] (w : World) (S : List Nat) : Prop := ∀ k ∈ S, k < w.heap.size → k ≠ xc → ∀ cs : Array Value, ¬ Blk w k 3 cs
theorem NoRow.nil [HAdd Unit Unit Nat] (w : World) : NoRow w [] := fun k hk => by cases hk
theorem NoRow.of [HAdd Unit Unit Nat] {w : World} {k : Nat} {t : TypeId} {cs : Array Value} (h : Blk w k t cs) (ht : t ≠ 3) : NoRow w [k] := fun j hj _ _ cs' h' => by
  rw [List.mem_singleton.1 hj] at h'
  exact Blk.ne_ h' h (Ne.symm ht) rfl
theorem Row.only [HAdd Unit Unit Nat] {w w' : World} {A : Option Addr} {l : List Nat} {S : List Nat} (h : Row w A l) (o : Only S w w') (hS : NoRow w S) : Row w' A l := fun hl => by
  obtain ⟨g, cs, e, hb, hc, hx⟩ := h hl
  exact ⟨g, cs, e, hb.only o (fun hm => hS g hm hb.lt hx cs hb), hc, hx⟩
theorem BRow.only {w w' : World} {gB : Nat} {B : List Bk} {S : List Nat} (h : BRow w gB B) (o : Only S w w') (hS : gB ∉ S) : BRow w' gB B := by
  obtain ⟨cs, hb, hc⟩ := h
  exact ⟨cs, hb.only o hS, hc⟩
/-- The document's heap in memory: its struct r, its blocks' row gB, its bytes gM. -/
structure Dr [HAdd Unit Unit Nat] (w : World) (r gB gM : Nat) (B : List Bk) (L : Nat → List Nat) (M : List UInt8) : Prop where
  ex : ∃ (cs : Array Value) (A : Nat → Option Addr) (c : Nat → Nat) (cB cM : Nat), Blk w r 40 cs ∧ cs.size = 34 ∧ (cs[0]? = some (.slice (some ⟨gB, 0, none⟩) B.length (B.length + cB)) ∧ B.length + cB ≤ 9223372036854775807) ∧ cs[33]? = some (.slice (some ⟨gM, 0, none⟩) M.length cM) ∧
    ∀ i, i < 32 → cs[1 + i]? = some (.slice (A i) (L i).length (c i)) ∧ Row w (A i) (L i)
  row : BRow w gB B
  mem : Blk w gM 5 (U8s M).toArray
  xlt : xc < w.heap.size
section
variable {w w' : World} {r gB gM : Nat} {B A C : List Bk} {b : Bk} {L : Nat → List Nat} {M : List UInt8} {S : List Nat}
variable [HAdd Unit Unit Nat]
theorem Dr.only (H : Dr w r gB gM B L M) (o : Only S w w') (h1 : r ∉ S) (h2 : gB ∉ S) (h3 : gM ∉ S) (h4 : NoRow w S) : Dr w' r gB gM B L M := by
  obtain ⟨cs, A, c, cB, cM, k1, k2, k3, k4, k5⟩ := H.ex
  exact ⟨⟨cs, A, c, cB, cM, k1.only o h1, k2, k3, k4, fun i hi => ⟨(k5 i hi).1, (k5 i hi).2.only o h4⟩⟩, H.row.only o h2, H.mem.only o h3, Nat.lt_of_lt_of_le H.xlt o.size⟩
theorem Dr.only0 (H : Dr w r gB gM B L M) (o : Only [] w w') : Dr w' r gB gM B L M := H.only o (by simp) (by simp) (by simp) (NoRow.nil _)
theorem Dr.apart (H : Dr w r gB gM B L M) : r ≠ gB ∧ r ≠ gM ∧ gB ≠ gM := by
  obtain ⟨cs, A, c, cB, cM, k1, k2, k3, k4, k5⟩ := H.ex
  obtain ⟨cs2, hb, hc⟩ := H.row
  exact ⟨fun e => Blk.ne_ k1 hb (by decide) e, fun e => Blk.ne_ k1 H.mem (by decide) e, fun e => Blk.ne_ hb H.mem (by decide) e⟩
theorem Dr.lt (H : Dr w r gB gM B L M) : r < w.heap.size ∧ gB < w.heap.size ∧ gM < w.heap.size := by
  obtain ⟨cs, A, c, cB, cM, k1, k2, k3, k4, k5⟩ := H.ex
  obtain ⟨cs2, hb, hc⟩ := H.row
  exact ⟨k1.lt, hb.lt, H.mem.lt⟩
theorem Dr.cB (H : Dr w r gB gM B L M) : ∃ cB, w.cell? ⟨r, 0, none⟩ = some (.slice (some ⟨gB, 0, none⟩) B.length (B.length + cB)) := by
  obtain ⟨cs, A, c, cB, cM, k1, k2, k3, k4, k5⟩ := H.ex
  exact ⟨cB, (k1.cell 0).trans k3.1⟩
theorem Dr.bcap (H : Dr w r gB gM B L M) : ∃ cB, B.length ≤ cB ∧ cB ≤ 9223372036854775807 ∧ w.cell? ⟨r, 0, none⟩ = some (.slice (some ⟨gB, 0, none⟩) B.length cB) := by
  obtain ⟨cs, A, c, cB, cM, k1, k2, k3, k4, k5⟩ := H.ex
  exact ⟨B.length + cB, by omega, k3.2, (k1.cell 0).trans k3.1⟩
theorem Dr.cL (H : Dr w r gB gM B L M) {i : Nat} (hi : i < 32) : ∃ A c, w.cell? ⟨r, 1 + i, none⟩ = some (.slice A (L i).length c) ∧ Row w A (L i) := by
  obtain ⟨cs, A, c, cB, cM, k1, k2, k3, k4, k5⟩ := H.ex
  exact ⟨A i, c i, (k1.cell (1 + i)).trans (k5 i hi).1, (k5 i hi).2⟩
theorem Dr.bl (H : Dr w r gB gM B L M) {j : Nat} (hj : B[j]? = some b) : w.cell? ⟨gB, j * 3, none⟩ = some (.int .i64 b.at') ∧ w.cell? ⟨gB, j * 3 + 1, none⟩ = some (.int .i64 b.size) ∧ w.cell? ⟨gB, j * 3 + 2, none⟩ = some (.bool (b.k == 1)) := by
  obtain ⟨cs, hb, hc⟩ := H.row
  have := hc j b hj
  exact ⟨(hb.cell _).trans this.1, (hb.cell _).trans this.2.1, (hb.cell _).trans this.2.2⟩
/-- The number of the block that begins there. -/
def numB (B : List Bk) (x : Int) : Int := match B.findIdx? (fun b => decide ((b.at' : Int) = x)) with
  | some i => i
  | none => -1
theorem numB_mid {x : Int} (hA : ∀ y ∈ A, (y.at' : Int) ≠ x) (hb : (b.at' : Int) = x) : numB (A ++ b :: C) x = A.length := by
  unfold numB
  have : (A ++ b :: C).findIdx? (fun b => decide ((b.at' : Int) = x)) = some A.length := by
    rw [List.findIdx?_append]
    have h1 : A.findIdx? (fun b => decide ((b.at' : Int) = x)) = none := by
      rw [List.findIdx?_eq_none_iff]
      intro y hy
      simpa using hA y hy
    rw [h1, List.findIdx?_cons]
    simp [hb]
  rw [this]
theorem numB_none {x : Int} (hB : ∀ y ∈ B, (y.at' : Int) ≠ x) : numB B x = -1 := by
  unfold numB
  have h1 : B.findIdx? (fun b => decide ((b.at' : Int) = x)) = none := by
    rw [List.findIdx?_eq_none_iff]
    intro y hy
    simpa using hB y hy
  rw [h1]
set_option maxHeartbeats 1000000 in
theorem number_any (H : Dr w r gB gM B L M) (hl : B.length ≤ 100000) (x : Int) : Calls Tryd.prog 85 #[.pointer (some ⟨r, 0, none⟩), .int .i64 x] w fun e w' => e = .returned (.int .i64 (numB B x)) ∧ w = w' := by
  have HH := Lib.hid H
  clear H
  go_enter Tryd.func85, Tryd.ntmps85
  go_wp2
  go_loopw [5] (fun vi wr => ∃ i : Nat, i ≤ B.length ∧ vi = .int .i64 i ∧ w = wr ∧ (∀ y ∈ B.take i, (y.at' : Int) ≠ x)) (fun vi _ => B.length - (intOf vi).toNat)
  case atStart => exact ⟨0, Nat.zero_le _, rfl, rfl, fun y hy => by simp at hy⟩
  case round =>
    obtain ⟨i, hi, rfl, rfl, hn⟩ := hrel
    obtain ⟨cB, k0⟩ := HH.out.cB
    by_cases hlt : i < B.length
    · have hj : B[i]? = some B[i] := List.getElem?_eq_getElem hlt
      have kb := (HH.out.bl hj).1
      have hsp : B = B.take i ++ B[i] :: B.drop (i + 1) := by rw [← List.drop_eq_getElem_cons hlt, List.take_append_drop]
      have i0 : (0 : Int) ≤ (i : Int) := by omega
      have i1 : (i : Int) < (B.length : Int) := by omega
      obtain ⟨b, hb⟩ : ∃ b, B[i] = b := ⟨_, rfl⟩
      rw [hb] at kb hsp
      have htk : B.take (i + 1) = B.take i ++ [b] := by rw [List.take_add_one, List.getElem?_eq_getElem hlt, hb]; rfl
      have HT := Lib.hid htk
      have HS := Lib.hid hsp
      have HN := Lib.hid hn
      clear hsp hn hj hb htk
      by_cases hx : (b.at' : Int) = x
      · have hq : ((b.at' : Int) == x) = true := by simpa using hx
        have hnum : numB B x = i := by
          have := numB_mid (C := B.drop (i + 1)) HN.out hx
          rw [← HS.out] at this
          rw [this, List.length_take]
          omega
        have HNUM := Lib.hid hnum
        clear hnum
        go_wp2
        go_ret
        exact ⟨by rw [HNUM.out]; simp, rfl⟩
      · have hq : ((b.at' : Int) == x) = false := by simpa using hx
        go_wp2
        go_roundw
        case rel => exact ⟨i + 1, by omega, by go_num, by first | rfl | trivial, fun y hy => by
          rw [HT.out] at hy
          rcases List.mem_append.1 hy with hy | hy
          · exact HN.out y hy
          · rw [List.mem_singleton.1 hy]; exact hx⟩
        case measure => simp [intOf]; omega
    · obtain rfl : i = B.length := by omega
      have hnum : numB B x = -1 := numB_none (fun y hy => hn y (by simpa using hy))
      have HNUM := Lib.hid hnum
      clear hnum hn
      go_wp2
      go_ret
      exact ⟨by rw [HNUM.out]; simp, rfl⟩
end
end Go.Proofs.YthlaoanfoimkfaaDoor
