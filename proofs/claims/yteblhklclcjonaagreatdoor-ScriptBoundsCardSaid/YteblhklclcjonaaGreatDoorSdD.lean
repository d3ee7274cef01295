/- Script: Sd1 Sd2 Sd3. No condition but what each theorem says. -/
import Derived.Test.YteblhklclcjonaaGreatDoorSpD
import Derived.Test.YteblhklclcjonaaGreatDoorSnM
import Derived.Laws.MakeOwn
import Derived.BigRegion
namespace Go.Proofs.YteblhklclcjonaaGreatDoor
open Go.RowKit
set_option linter.unusedVariables false
set_option linter.all false
set_option maxRecDepth 100000

def bt0 : List UInt8 := []
theorem bt0_is : outB (parF bt0) = (none, 0, 4) := by kernel_rfl
def bt1 : List UInt8 := [10]
theorem bt1_is : outB (parF bt1) = (none, 0, 4) := by kernel_rfl
def bt2 : List UInt8 := [106, 111, 98, 32, 49, 32, 49, 32, 49, 32, 49, 32, 50, 53, 54, 32, 53]
theorem bt2_is : outB (parF bt2) = (none, 0, 4) := by kernel_rfl
def bt3 : List UInt8 := [106, 111, 98, 32, 49, 32, 49, 32, 49, 32, 49, 32, 50, 53, 54, 32, 53, 10, 106, 111, 98, 32, 49, 32, 49, 32, 49, 32, 49, 32, 50, 53, 54, 32, 53, 10]
theorem bt3_is : outB (parF bt3) = (none, 1, 4) := by kernel_rfl
def bt4 : List UInt8 := [106, 111, 98, 32, 49, 32, 49, 32, 49, 32, 49, 32, 50, 53, 54, 32, 53, 10, 101, 110, 100, 10]
theorem bt4_is : outB (parF bt4) = (none, 1, 4) := by kernel_rfl
def bt5 : List UInt8 := [106, 111, 98, 32, 49, 32, 49, 32, 49, 32, 49, 32, 50, 53, 54, 32, 53, 10, 114, 117, 110, 32, 49, 10]
theorem bt5_is : outB (parF bt5) = (none, 1, 4) := by kernel_rfl
def bt6 : List UInt8 := [106, 111, 98, 32, 49, 32, 49, 32, 49, 32, 49, 32, 50, 53, 54, 32, 53, 10, 116, 101, 120, 116, 32, 97, 10]
theorem bt6_is : outB (parF bt6) = (none, 1, 4) := by kernel_rfl
def bt7 : List UInt8 := [106, 111, 98, 32, 49, 32, 49, 32, 49, 32, 49, 32, 50, 53, 54, 32, 53, 10, 112, 114, 111, 103, 114, 97, 109, 10, 116, 101, 120, 116, 32, 97, 10, 112, 114, 111, 103, 114, 97, 109, 10]
theorem bt7_is : outB (parF bt7) = (none, 3, 4) := by kernel_rfl
def bt8 : List UInt8 := [106, 111, 98, 32, 49, 32, 49, 32, 49, 32, 49, 32, 50, 53, 54, 32, 53, 10, 112, 114, 111, 103, 114, 97, 109, 10, 114, 117, 110, 32, 49, 10, 116, 101, 120, 116, 32, 97, 10]
theorem bt8_is : outB (parF bt8) = (none, 3, 4) := by kernel_rfl
def bt9 : List UInt8 := [106, 111, 98, 32, 49, 32, 49, 32, 49, 32, 49, 32, 50, 53, 54, 32, 53, 10, 112, 114, 111, 103, 114, 97, 109, 10, 114, 117, 110, 32, 49, 10, 101, 110, 100, 10]
theorem bt9_is : outB (parF bt9) = (none, 3, 4) := by kernel_rfl
def bt10 : List UInt8 := [106, 111, 98, 32, 49, 32, 49, 32, 49, 32, 49, 32, 50, 53, 54, 32, 53, 10, 112, 114, 111, 103, 114, 97, 109, 10, 114, 117, 110, 32, 49]
theorem bt10_is : outB (parF bt10) = (none, 2, 4) := by kernel_rfl
def bt11 : List UInt8 := [106, 111, 98, 32, 49, 32, 49, 32, 49, 32, 49, 32, 50, 53, 54, 32, 53, 10, 112, 114, 111, 103, 114, 97, 109, 10, 116, 105, 99, 107, 32, 50, 10, 116, 105, 99, 107, 32, 49, 10]
theorem bt11_is : outB (parF bt11) = (none, 3, 4) := by kernel_rfl
def bt12 : List UInt8 := [106, 111, 98, 32, 49, 32, 49, 32, 49, 32, 49, 32, 50, 53, 54, 32, 53, 10, 112, 114, 111, 103, 114, 97, 109, 10, 116, 101, 120, 116, 32, 10]
theorem bt12_is : outB (parF bt12) = (none, 2, 4) := by kernel_rfl
def bt13 : List UInt8 := [106, 111, 98, 32, 49, 32, 49, 32, 49, 32, 49, 32, 50, 53, 54, 32, 53, 10, 112, 114, 111, 103, 114, 97, 109, 10, 116, 101, 120, 116, 32, 97, 32, 98, 10]
theorem bt13_is : outB (parF bt13) = (none, 2, 4) := by kernel_rfl
def bt14 : List UInt8 := [106, 111, 98, 32, 49, 32, 49, 32, 49, 32, 49, 32, 50, 53, 54, 32, 53, 10, 112, 114, 111, 103, 114, 97, 109, 10, 102, 108, 121, 10]
theorem bt14_is : outB (parF bt14) = (none, 2, 4) := by kernel_rfl
def bt15 : List UInt8 := [106, 111, 98, 32, 49, 32, 49, 32, 49, 32, 49, 32, 50, 53, 54, 32, 53, 10, 112, 114, 111, 103, 114, 97, 109, 10, 114, 117, 110, 32, 56, 49, 57, 51, 10]
theorem bt15_is : outB (parF bt15) = (none, 2, 4) := by kernel_rfl
def bt16 : List UInt8 := [106, 111, 98, 32, 49, 32, 49, 32, 49, 32, 49, 32, 50, 54, 48, 32, 53, 10, 112, 114, 111, 103, 114, 97, 109, 10]
theorem bt16_is : outB (parF bt16) = (none, 0, 4) := by kernel_rfl
def btM : List UInt8 := [106, 111, 98, 32, 49, 32, 49, 32, 49, 32, 49, 32, 50, 53, 54, 32, 53, 10, 112, 114, 111, 103, 114, 97, 109, 10, 112, 114, 111, 103, 114, 97, 109, 10, 112, 114, 111, 103, 114, 97, 109, 10, 112, 114, 111, 103, 114, 97, 109, 10, 112, 114, 111, 103, 114, 97, 109, 10, 112, 114, 111, 103, 114, 97, 109, 10, 112, 114, 111, 103, 114, 97, 109, 10, 112, 114, 111, 103, 114, 97, 109, 10, 112, 114, 111, 103, 114, 97, 109, 10, 112, 114, 111, 103, 114, 97, 109, 10, 112, 114, 111, 103, 114, 97, 109, 10, 112, 114, 111, 103, 114, 97, 109, 10, 112, 114, 111, 103, 114, 97, 109, 10, 112, 114, 111, 103, 114, 97, 109, 10, 112, 114, 111, 103, 114, 97, 109, 10, 112, 114, 111, 103, 114, 97, 109, 10, 112, 114, 111, 103, 114, 97, 109, 10, 112, 114, 111, 103, 114, 97, 109, 10, 112, 114, 111, 103, 114, 97, 109, 10, 112, 114, 111, 103, 114, 97, 109, 10, 112, 114, 111, 103, 114, 97, 109, 10, 112, 114, 111, 103, 114, 97, 109, 10, 112, 114, 111, 103, 114, 97, 109, 10, 112, 114, 111, 103, 114, 97, 109, 10, 112, 114, 111, 103, 114, 97, 109, 10, 112, 114, 111, 103, 114, 97, 109, 10, 112, 114, 111, 103, 114, 97, 109, 10, 112, 114, 111, 103, 114, 97, 109, 10, 112, 114, 111, 103, 114, 97, 109, 10, 112, 114, 111, 103, 114, 97, 109, 10, 112, 114, 111, 103, 114, 97, 109, 10, 112, 114, 111, 103, 114, 97, 109, 10, 112, 114, 111, 103, 114, 97, 109, 10]
theorem btM_is : outB (parF btM) = (none, 33, 4) := by kernel_rfl
def btW : List UInt8 := [106, 111, 98, 32, 49, 32, 49, 32, 49, 32, 49, 32, 50, 53, 54, 32, 53, 10, 112, 114, 111, 103, 114, 97, 109, 10, 116, 101, 120, 116, 32, 120, 120, 120, 120, 120, 120, 120, 120, 120, 120, 120, 120, 120, 120, 120, 120, 120, 120, 120, 120, 120, 120, 120, 120, 120, 120, 120, 120, 120, 120, 120, 120, 120, 120, 120, 120, 120, 120, 120, 120, 120, 120, 120, 120, 120, 120, 120, 120, 120, 120, 120, 120, 120, 120, 120, 120, 120, 120, 120, 120, 120, 120, 120, 120, 120, 10]
theorem btW_is : outB (parF btW) = (none, 2, 4) := by kernel_rfl
def btL : List UInt8 := [106, 111, 98, 32, 49, 32, 49, 32, 49, 32, 49, 32, 50, 53, 54, 32, 53, 10, 112, 114, 111, 103, 114, 97, 109, 10, 105, 110, 116, 101, 114, 114, 117, 112, 116, 32, 49, 10, 105, 110, 116, 101, 114, 114, 117, 112, 116, 32, 49, 10, 114, 117, 110, 32, 49, 10, 116, 105, 99, 107, 32, 49, 10, 114, 117, 110, 32, 49, 10]
theorem btL_is : outB (parF btL) = (some (1, 0, 5), 0, 0) := by kernel_rfl
def hdL : List UInt8 := [106, 111, 98, 32, 49, 32, 49, 32, 49, 32, 49, 32, 50, 53, 54, 32, 53, 10]
def btT : List UInt8 := [106, 111, 98, 32, 49, 32, 49, 32, 49, 32, 49, 32, 50, 53, 54, 32, 53, 10, 112, 114, 111, 103, 114, 97, 109, 10, 116, 101, 120, 116, 32, 126, 37, 55, 70, 10]
def btx : Nat → List UInt8
  | 0 => bt0
  | 1 => bt1
  | 2 => bt2
  | 3 => bt3
  | 4 => bt4
  | 5 => bt5
  | 6 => bt6
  | 7 => bt7
  | 8 => bt8
  | 9 => bt9
  | 10 => bt10
  | 11 => bt11
  | 12 => bt12
  | 13 => bt13
  | 14 => bt14
  | 15 => bt15
  | _ => bt16
def atx : Nat → Nat
  | 0 => 0
  | 1 => 0
  | 2 => 0
  | 3 => 1
  | 4 => 1
  | 5 => 1
  | 6 => 1
  | 7 => 3
  | 8 => 3
  | 9 => 3
  | 10 => 2
  | 11 => 3
  | 12 => 2
  | 13 => 2
  | 14 => 2
  | 15 => 2
  | _ => 0
theorem btx_is (q : Nat) (h : q < 17) : outB (parF (btx q)) = (none, atx q, 4) ∧ (btx q).length ≤ 2000000 := by
  rcases (by omega : q = 0 ∨ q = 1 ∨ q = 2 ∨ q = 3 ∨ q = 4 ∨ q = 5 ∨ q = 6 ∨ q = 7 ∨ q = 8 ∨ q = 9 ∨ q = 10 ∨ q = 11 ∨ q = 12 ∨ q = 13 ∨ q = 14 ∨ q = 15 ∨ q = 16) with h | h | h | h | h | h | h | h | h | h | h | h | h | h | h | h | h
  · subst h; exact ⟨bt0_is, by decide⟩
  · subst h; exact ⟨bt1_is, by decide⟩
  · subst h; exact ⟨bt2_is, by decide⟩
  · subst h; exact ⟨bt3_is, by decide⟩
  · subst h; exact ⟨bt4_is, by decide⟩
  · subst h; exact ⟨bt5_is, by decide⟩
  · subst h; exact ⟨bt6_is, by decide⟩
  · subst h; exact ⟨bt7_is, by decide⟩
  · subst h; exact ⟨bt8_is, by decide⟩
  · subst h; exact ⟨bt9_is, by decide⟩
  · subst h; exact ⟨bt10_is, by decide⟩
  · subst h; exact ⟨bt11_is, by decide⟩
  · subst h; exact ⟨bt12_is, by decide⟩
  · subst h; exact ⟨bt13_is, by decide⟩
  · subst h; exact ⟨bt14_is, by decide⟩
  · subst h; exact ⟨bt15_is, by decide⟩
  · subst h; exact ⟨bt16_is, by decide⟩
/-- 'many', so far. -/
def manyL (q : Nat) : List UInt8 := hdL ++ (List.replicate q (progW ++ [10])).flatten
theorem manyL_next (q : Nat) : manyL (q + 1) = manyL q ++ (progW ++ [10]) := by
  unfold manyL
  rw [List.replicate_succ', List.flatten_append]
  simp
theorem manyL_33 : manyL 33 = btM := by kernel_rfl
/-! ## The great script -/
theorem may_zero : mayI z0I 256 = true := by kernel_rfl
def zT : List UInt8 := List.replicate 64 0
def bJ (A : Option Addr) (c : Nat) (PA : Option Addr) (T : Option Addr) (d : Nat) : Jb := ⟨16, 8, 32, 100, 65536, 31, A, 32, c, fun _ => ⟨PA, 256, 256, fun _ => z0I⟩, T, 32, d, fun _ => bs zT⟩
def runF : Nat → Ev := fun _ => ⟨1, 0⟩
theorem good_bJ (A : Option Addr) (c : Nat) (PA : Option Addr) (T : Option Addr) (d : Nat) : GoodJ (bJ A c PA T d) := by
  refine ⟨fun q hq => ?_, fun k hk => ⟨Nat.le_refl _, fun i hi => may_zero, fun i hi => by show (-9223372036854775808 : Int) ≤ 0 ∧ (0 : Int) ≤ 9223372036854775807; decide⟩, fun k hk => by show (bs zT).size ≤ 64; rw [bs_size]; simp [zT]⟩
  rcases (by omega : q = 0 ∨ q = 1 ∨ q = 2 ∨ q = 3 ∨ q = 4 ∨ q = 5 ∨ q = 6 ∨ q = 7 ∨ q = 8) with h | h | h | h | h | h | h | h | h
  all_goals (subst h; simp only [lo9, hi9, v9, bJ]; decide)
theorem good_b (A : Option Addr) (c : Nat) (PA : Option Addr) (T : Option Addr) (d : Nat) : GoodJE (bJ A c PA T d) 8192 runF := ⟨good_bJ A c PA T d, Nat.le_refl _, fun k hk => by show mayE ⟨1, 0⟩ = true; decide⟩
theorem bad_b (A : Option Addr) (c : Nat) (PA : Option Addr) (T : Option Addr) (d : Nat) {f : Nat → Ev} (h : ∀ k, k < 8193 → mayE (f k) = true) : chkE (bJ A c PA T d) 8193 f = (0, 3) := by
  unfold chkE
  rw [if_neg (by rw [job_good (good_bJ A c PA T d)]; simp), if_neg (by rw [fb_lt (g := badE f) (n := 8193) (fun k hk => by unfold badE; rw [h k hk]; rfl)]; omega), if_pos (by omega)]
theorem scrB_700 {s : Sc} (h : GoodS s) : (scrB s).length ≤ 700000 := by
  have h1 := progsB_le s.ps h.pg
  have h2 := textsB_le s.ts
  have hm : ∀ x ∈ strF s.es, mayS x = true := fun x hx => (strF_may s.es h.el x hx).1
  have h3 := strB_le _ hm
  have h4 := strF_len s.es
  have h5 := headB_len s.v
  have h6 := h.el
  have h7 := linesP_le s.ps h.pg
  have h8 := wtT_le s.ts h.tg
  have h9 := h.pl
  have h10 := h.tl
  unfold scrB jobB
  simp only [List.length_append, List.length_cons]
  omega
def tickL : List UInt8 := [116, 105, 99, 107, 32, 49, 10]
/-- One more stretch than may be, behind a script of 8192 events. -/
theorem par_over {s : Sc} (h : GoodS s) (he : s.es.length = 8192) : parF (scrB s ++ tickL) = (none, 1 + (linesP s.ps + s.ts.length + (strF s.es).length), 4) := by
  have hl := scrB_700 h
  have hx : mayS ⟨⟨2, 0⟩, 1⟩ = true := by kernel_rfl
  have ht : tickL = lineT ⟨⟨2, 0⟩, 1⟩ ++ 10 :: [] := by kernel_rfl
  have hc : cnt tickL = 0 := by
    have := cnt_strs (l := [⟨⟨2, 0⟩, 1⟩]) (fun x hm => by simp at hm; rw [hm]; exact hx) cnt_nil
    have e : strB [⟨⟨2, 0⟩, 1⟩] ++ [] = tickL := by rw [ht]; simp [strB]
    rw [e] at this
    exact this
  have e : scrB s ++ tickL = headB s.v ++ 10 :: (progsB s.ps ++ (textsB s.ts ++ (strB (strF s.es) ++ tickL))) := by simp [scrB, jobB]
  have hlen : (scrB s ++ tickL).length ≤ 1048576 := by rw [List.length_append]; have : tickL.length = 7 := rfl; omega
  have hcut := cut_at 10 (headB s.v) (progsB s.ps ++ (textsB s.ts ++ (strB (strF s.es) ++ tickL))) (headN_no10 s.v (numOk_nat h.v) 6 (Nat.le_refl _))
  have hf : linesP s.ps + s.ts.length + (strF s.es).length < (scrB s ++ tickL).length := by
    have h1 := progsB_len s.ps
    have h2 := textsB_len s.ts
    have hm : ∀ x ∈ strF s.es, mayS x = true := fun x hx => (strF_may s.es h.el x hx).1
    have h3 := strB_len (strF s.es) hm
    rw [e]
    simp only [List.length_append, List.length_cons]
    omega
  obtain ⟨len, a, ha, hes, hp⟩ := parL_text h hc ((scrB s ++ tickL).length + 1) (by omega)
  unfold parF
  rw [if_neg (by omega), e, hcut, if_pos ⟨hdOk_back h.v, rfl⟩, ← e, hp]
  obtain ⟨g, hg⟩ : ∃ g, (scrB s ++ tickL).length + 1 - (linesP s.ps + s.ts.length + (strF s.es).length) = g + 1 := ⟨_, (by omega : _ = ((scrB s ++ tickL).length + 1 - (linesP s.ps + s.ts.length + (strF s.es).length) - 1) + 1)⟩
  rw [hg]
  conv => lhs; rw [ht]
  rw [parL_bad (lineT_facts hx).1 (by
    rw [lineR_str hx]
    unfold evR
    rw [if_pos (.inr (.inr (by simp only; omega)))])]
theorem lines_b : linesP (List.replicate 32 (List.replicate 256 z0I)) = 8224 := by kernel_rfl
theorem str_b : strF (List.replicate 8192 ⟨1, 0⟩) = [⟨⟨1, 0⟩, 8192⟩] := by
  have := strF_run (e := ⟨1, 0⟩) (by kernel_rfl) (by decide) (r := []) (.inl rfl) 8191
  rw [List.append_nil] at this
  exact this
theorem map_const {α β : Type} (n : Nat) (x : β) : (List.range n).map (fun _ => x) = List.replicate n x := by
  apply List.ext_getElem?
  intro i
  by_cases hi : i < n
  · rw [List.getElem?_map, List.getElem?_range hi, List.getElem?_replicate, if_pos hi]; rfl
  · rw [List.getElem?_eq_none (by simp; omega), List.getElem?_eq_none (by simp; omega)]
theorem sc_b (A : Option Addr) (c : Nat) (PA : Option Addr) (T : Option Addr) (d : Nat) : (scOf (bJ A c PA T d) 8192 runF).ps = List.replicate 32 (List.replicate 256 z0I) ∧ (scOf (bJ A c PA T d) 8192 runF).ts.length = 32 ∧ (scOf (bJ A c PA T d) 8192 runF).es = List.replicate 8192 ⟨1, 0⟩ := by
  refine ⟨?_, tsL_len _ _, map_const (α := Nat) 8192 _⟩
  show psL 32 (fun _ => ⟨PA, 256, 256, fun _ => z0I⟩) = _
  unfold psL insL
  rw [map_const (α := Nat)]
  simp only
  rw [map_const (α := Nat)]
theorem par_b (A : Option Addr) (c : Nat) (PA : Option Addr) (T : Option Addr) (d : Nat) : parF (scrT (bJ A c PA T d) 8192 runF ++ tickL) = (none, 8258, 4) := by
  obtain ⟨h1, h2, h3⟩ := sc_b A c PA T d
  rw [scrT_B, par_over (good_sc (good_b A c PA T d)) (by rw [h3, List.length_replicate]), h1, h2, h3, lines_b, str_b]
  rfl
theorem par_huge : parF (List.replicate 1048577 0) = (none, 0, 3) := by
  unfold parF
  rw [if_pos (by rw [List.length_replicate]; omega)]
/-! ## The little job -/
def tJ (A : Option Addr) (c : Nat) (T : Option Addr) (d : Nat) : Jb := ⟨1, 1, 1, 1, 256, 5, A, 1, c, fun _ => ⟨none, 0, 0, fun _ => z0I⟩, T, 1, d, fun _ => ⟨#[126, 127]⟩⟩
theorem good_tJ (A : Option Addr) (c : Nat) (T : Option Addr) (d : Nat) : GoodJ (tJ A c T d) := by
  refine ⟨fun q hq => ?_, fun k hk => ⟨Nat.zero_le _, fun i hi => absurd hi (Nat.not_lt_zero _), fun i hi => absurd hi (Nat.not_lt_zero _)⟩, fun k hk => by show ByteArray.size ⟨#[126, 127]⟩ ≤ 64; decide⟩
  rcases (by omega : q = 0 ∨ q = 1 ∨ q = 2 ∨ q = 3 ∨ q = 4 ∨ q = 5 ∨ q = 6 ∨ q = 7 ∨ q = 8) with h | h | h | h | h | h | h | h | h
  all_goals (subst h; simp only [lo9, hi9, v9, tJ]; decide)
theorem text_tJ (A : Option Addr) (c : Nat) (T : Option Addr) (d : Nat) : jobT (tJ A c T d) = btT := by kernel_rfl
end Go.Proofs.YteblhklclcjonaaGreatDoor
namespace Go.Proofs.YteblhklclcjonaaGreatDoor
open Go.RowKit
set_option linter.unusedVariables false
set_option linter.all false
set_option maxRecDepth 20000

theorem set_appN (l k : List Value) (r : Nat) (x : Value) : (l ++ k).set (l.length + r) x = l ++ k.set r x := by
  rw [List.set_append_right _ _ (by omega)]
  simp
def EV (q : Nat) : List Ev := List.replicate q ⟨1, 0⟩ ++ List.replicate (8192 - q) ⟨0, 0⟩
theorem EV_len {q : Nat} (h : q ≤ 8192) : (EV q).length = 8192 := by simp [EV]; omega
theorem EvV_set (a b : List Ev) (i j : Ev) : (((EvV (a ++ i :: b)).toArray.setIfInBounds (a.length * 2) (.int .i64 j.kind)).setIfInBounds (a.length * 2 + 1) (.int .i64 j.num)) = (EvV (a ++ j :: b)).toArray := by
  have e : ∀ x : Ev, EvV (a ++ x :: b) = EvV a ++ (.int .i64 x.kind :: .int .i64 x.num :: EvV b) := fun x => by simp [EvV]
  have hl := EvV_len a
  rw [e i, e j, ← hl]
  show (((EvV a ++ (.int .i64 i.kind :: .int .i64 i.num :: EvV b)).toArray.setIfInBounds ((EvV a).length + 0) (.int .i64 j.kind)).setIfInBounds ((EvV a).length + 1) (.int .i64 j.num)) = _
  simp only [List.setIfInBounds_toArray, set_appN]
  rfl
theorem EV_split {q : Nat} (h : q < 8192) : EV q = List.replicate q ⟨1, 0⟩ ++ ⟨0, 0⟩ :: List.replicate (8191 - q) ⟨0, 0⟩ := by
  unfold EV
  rw [show 8192 - q = (8191 - q) + 1 by omega, List.replicate_succ]
theorem EV_next {q : Nat} (h : q < 8192) : EV (q + 1) = List.replicate q ⟨1, 0⟩ ++ ⟨1, 0⟩ :: List.replicate (8191 - q) ⟨0, 0⟩ := by
  unfold EV
  rw [show 8192 - (q + 1) = 8191 - q by omega, List.replicate_succ', List.append_assoc]
  rfl
theorem ev_next {w : World} {E q : Nat} (hq : q < 8192) (h : Blk w E 24 (EvV (EV q)).toArray) : Blk ((w.setCell ⟨E, q * 2, none⟩ (.int .i64 1)).setCell ⟨E, q * 2 + 1, none⟩ (.int .i64 0)) E 24 (EvV (EV (q + 1))).toArray := by
  have e := EvV_set (List.replicate q ⟨1, 0⟩) (List.replicate (8191 - q) ⟨0, 0⟩) ⟨0, 0⟩ ⟨1, 0⟩
  rw [List.length_replicate, ← EV_split hq, ← EV_next hq] at e
  rw [← e]
  exact (h.set_ (q * 2) _).set_ (q * 2 + 1) _
theorem EV_full : EV 8192 = List.replicate 8192 ⟨1, 0⟩ := by simp [EV]
theorem made_const (z : Array Value) (n : Nat) (v : Value) (hz : z.size ≠ 0) (hv : ∀ q, q < z.size → z[q]! = v) : ∀ j, j < n * z.size → (madeCells z (n * z.size))[j]? = some v := by
  intro j hj
  unfold madeCells
  rw [Array.getElem?_map, Array.getElem?_range, if_pos hj]
  simp only [Option.map_some, Option.some.injEq]
  exact hv _ (Nat.mod_lt _ (by omega))
theorem arr_const {a : Array Value} {l : List Value} {v : Value} (hs : a.size = l.length) (ha : ∀ j, j < a.size → a[j]? = some v) (hl : ∀ x ∈ l, x = v) : a = l.toArray := by
  apply Array.ext_getElem?
  intro j
  by_cases hj : j < a.size
  · rw [ha j hj, List.getElem?_toArray, List.getElem?_eq_getElem (by omega)]
    rw [hl _ (List.getElem_mem _)]
  · rw [Array.getElem?_eq_none (by omega), List.getElem?_toArray, List.getElem?_eq_none (by omega)]
theorem made_evs (W : World) : (Instr.makeSlice 27 (.int .i64 8192) (.int .i64 8192)).run Tryz.prog W = .ok (.slice (some ⟨W.heap.size, 0, none⟩) 8192 8192) (W.alloc (.cells (EvV (EV 0)).toArray 24)) := by
  obtain ⟨i0, hi, hz0, hz1, hz2⟩ := info_parts info24e
  have h := run_make (P := Tryz.prog) W 27 24 i0 (.agg #[.int .i64 0, .int .i64 0]) Tryz.underlying27 hi hz0 .i64 .i64 8192 8192 (by omega) (by omega) (by rw [hz2]; omega) (by omega)
  rw [hz1] at h
  have e : madeCells (Value.cells (.agg #[.int .i64 0, .int .i64 0])) (Int.toNat 8192 * 2) = (EvV (EV 0)).toArray := by
    refine arr_const (v := .int .i64 0) ?_ ?_ ?_
    · rw [size_madeCells, EvV_len, EV_len (by omega)]; rfl
    · intro j hj
      rw [size_madeCells] at hj
      exact made_const #[.int .i64 0, .int .i64 0] 8192 _ (by decide) (fun q hq => by
        have : q < 2 := hq
        rcases (by omega : q = 0 ∨ q = 1) with h | h <;> subst h <;> rfl) j hj
    · intro x hx
      unfold EvV EV at hx
      simp only [List.replicate_zero, List.nil_append, List.mem_flatMap, List.mem_replicate] at hx
      obtain ⟨e, ⟨_, rfl⟩, hx⟩ := hx
      simp at hx
      exact hx
  rw [e] at h
  exact h
theorem made_ins (W : World) : (Instr.makeSlice 67 (.int .i64 256) (.int .i64 256)).run Tryz.prog W = .ok (.slice (some ⟨W.heap.size, 0, none⟩) 256 256) (W.alloc (.cells (GI (List.replicate 256 z0I)).toArray 99)) := by
  obtain ⟨i0, hi, hz0, hz1, hz2⟩ := info_parts info24b
  have h := run_make (P := Tryz.prog) W 67 99 i0 (.agg z5) Tryz.underlying67 hi hz0 .i64 .i64 256 256 (by omega) (by omega) (by rw [hz2]; omega) (by omega)
  rw [hz1] at h
  have e : madeCells (Value.cells (.agg z5)) (Int.toNat 256 * 5) = (GI (List.replicate 256 z0I)).toArray := by
    refine arr_const (v := .int .i64 0) ?_ ?_ ?_
    · rw [size_madeCells, GI_len, List.length_replicate]; rfl
    · intro j hj
      rw [size_madeCells] at hj
      exact made_const z5 256 _ (by decide) (fun q hq => by
        have : q < 5 := hq
        rcases (by omega : q = 0 ∨ q = 1 ∨ q = 2 ∨ q = 3 ∨ q = 4) with h | h | h | h | h <;> subst h <;> rfl) j hj
    · intro x hx
      unfold GI at hx
      simp only [List.mem_flatMap, List.mem_replicate] at hx
      obtain ⟨e, ⟨_, rfl⟩, hx⟩ := hx
      simp [insV, z0I] at hx
      exact hx
  rw [e] at h
  exact h
theorem made_bytes (k : Nat) (hk : k ≤ 2000000) (W : World) : (Instr.makeSlice 68 (.int .i64 k) (.int .i64 k)).run Tryz.prog W = .ok (.slice (some ⟨W.heap.size, 0, none⟩) k k) (W.alloc (.cells (U8s (List.replicate k 0)).toArray 5)) := by
  obtain ⟨i0, hi, hz0, hz1, hz2⟩ := info_parts info5
  have h := run_make (P := Tryz.prog) W 68 5 i0 (.int .u8 0) Tryz.underlying68 hi hz0 .i64 .i64 k k (by omega) (by omega) (by rw [hz2]; omega) (by omega)
  rw [hz1] at h
  have e : madeCells (Value.cells (.int .u8 0)) (Int.toNat (k : Int) * 1) = (U8s (List.replicate k 0)).toArray := by
    apply Array.ext'
    rw [show Value.cells (.int .u8 0) = #[.int .u8 0] from rfl, toList_madeCells_one]
    simp [U8s, U8]
  rw [e] at h
  simpa using h
theorem src_new (w : World) (ds : List UInt8) : Src (w.alloc (.cells (U8s ds).toArray 5)) (some ⟨w.heap.size, 0, none⟩) ds := fun _ => ⟨_, rfl, fun j u hj => by
  rw [add_mk, Nat.zero_add, (Blk.new w 5 _).cell j, List.getElem?_toArray, hj]⟩
theorem src_blk {w : World} {g : Nat} {ds : List UInt8} (h : Blk w g 5 (U8s ds).toArray) : Src w (some ⟨g, 0, none⟩) ds := fun _ => ⟨_, rfl, fun j u hj => by
  rw [add_mk, Nat.zero_add, h.cell j, List.getElem?_toArray, hj]⟩
theorem conv_new (W : World) (k : Nat) : (convert 68 9 (.slice (some ⟨W.heap.size, 0, none⟩) k k)).run Tryz.prog (W.alloc (.cells (U8s (List.replicate k 0)).toArray 5)) = .ok (.string (bs (List.replicate k 0))) (W.alloc (.cells (U8s (List.replicate k 0)).toArray 5)) :=
  run_str_any (some ⟨W.heap.size, 0, none⟩) k k (List.replicate k 0) (W.alloc (.cells (U8s (List.replicate k 0)).toArray 5)) (by simp) (src_new W _)
/-- A row of one program, so often. -/
def Rw (w : World) (B : Nat) (A : Option Addr) (c q : Nat) (v : Value) : Prop := w.ownsRow B 67 1 (.slice A q c) q (List.replicate q v)
theorem app_row (W : World) (B : Nat) (A : Option Addr) (c q : Nat) (v : Value) (hv : v.oneCell' = true) (hrow : Rw W B A c q v) (hl : q ≤ 1000) (hB : B ≤ W.heap.size) :
    ∃ g' c' w2, (AppH #[49, 49] 49 #[.slice A q c, .slice (some ⟨W.heap.size, 0, none⟩) 1 1]).run Tryz.prog (W.alloc (.cells #[v] 67)) = .ok (.slice (some ⟨g', 0, none⟩) (q + 1) c') w2 ∧
      Rw w2 B (some ⟨g', 0, none⟩) c' (q + 1) v ∧ Only (blkOf A) W w2 := by
  obtain ⟨i0, hi, hz0, hz1, hz2⟩ := info_parts info67
  obtain ⟨g', cap', w2, hrun, hown, ho, hgg⟩ := append_at (P := Tryz.prog) (W.alloc (.cells #[v] 67)) B 49 49 67 i0 (.slice none 0 0) 1 24 Tryz.underlying49 hi hz0 hz1 hz2 rfl (by omega) A q c (List.replicate q v) (own_only' hrow ((Only.refl [] W).alloc _) (by simp))
    ⟨W.heap.size, 0, none⟩ 1 1 [v] rfl (fun j u hj => by
      have := (Blk.new W 67 #[v]).cell j
      rw [add_mk, Nat.zero_add, this]
      rw [← Array.getElem?_toList]
      exact hj) (by intro u hu; simp at hu; subst hu; exact hv) (.inl (by omega)) (by unfold maxLen; omega) (by omega) (by simp; omega)
  rw [app_hide] at hrun
  rw [← List.replicate_succ'] at hown
  exact ⟨g', cap', w2, hrun, hown, ((Only.refl (blkOf A) W).alloc _).trans' ho⟩
theorem InsAt.congr {w : World} {A : Option Addr} {n : Nat} {f g : Nat → Ins} (h : InsAt w A n f) (hfg : ∀ k, k < n → f k = g k) : InsAt w A n g := fun k hk => by
  obtain ⟨a, h0, h1⟩ := h k hk
  rw [hfg k hk] at h1
  exact ⟨a, h0, h1⟩
theorem EvAt.congr {w : World} {A : Option Addr} {n : Nat} {f g : Nat → Ev} (h : EvAt w A n f) (hfg : ∀ k, k < n → f k = g k) : EvAt w A n g := fun k hk => by
  obtain ⟨a, h0, h1⟩ := h k hk
  rw [hfg k hk] at h1
  exact ⟨a, h0, h1⟩
theorem blk_is {w : World} {P : Nat} (h : Blk w P 99 (GI (List.replicate 256 z0I)).toArray) : InsAt w (some ⟨P, 0, none⟩) 256 (fun _ => z0I) := by
  have hI : Is w 0 (some ⟨P, 0, none⟩) 256 (List.replicate 256 z0I) := by
    refine ⟨by rw [GI_len], .inr ⟨P, 256, _, by rw [List.length_replicate], Nat.zero_le _, h, by rw [List.length_replicate]; omega, by unfold maxLen; omega, ?_, ?_⟩⟩
    · rw [List.size_toArray, GI_len, List.length_replicate]
    · rw [List.length_replicate]
      show (GI (List.replicate 256 z0I)).take (256 * 5) = _
      exact List.take_of_length_le (by rw [GI_len, List.length_replicate]; omega)
  have h2 := hI.at_
  rw [List.length_replicate] at h2
  exact h2.congr (fun k hk => by unfold insF; rw [List.getD_eq_getElem?_getD, List.getElem?_replicate, if_pos hk]; rfl)
theorem blk_es {w : World} {B E : Nat} (hB : B ≤ E) (h : Blk w E 24 (EvV (EV 8192)).toArray) : Es w B (some ⟨E, 0, none⟩) 8192 (List.replicate 8192 ⟨1, 0⟩) := by
  rw [EV_full] at h
  refine ⟨by rw [EvV_len], .inr ⟨E, 8192, _, by rw [List.length_replicate], hB, h, by rw [List.length_replicate]; omega, by unfold maxLen; omega, ?_, ?_⟩⟩
  · rw [List.size_toArray, EvV_len, List.length_replicate]
  · rw [List.length_replicate]
    show (EvV (List.replicate 8192 ⟨1, 0⟩)).take (8192 * 2) = _
    exact List.take_of_length_le (by rw [EvV_len, List.length_replicate]; omega)
theorem es_run {w : World} {B : Nat} {A : Option Addr} {c : Nat} (h : Es w B A c (List.replicate 8192 ⟨1, 0⟩)) : EvAt w A 8192 runF := by
  have h2 := h.at_
  rw [List.length_replicate] at h2
  exact h2.congr (fun k hk => by unfold evF runF; rw [List.getD_eq_getElem?_getD, List.getElem?_replicate, if_pos hk]; rfl)
theorem jb_b {w : World} {B P : Nat} {A : Option Addr} {c : Nat} {T : Option Addr} {d : Nat} (hp : Rw w B A c 32 (.slice (some ⟨P, 0, none⟩) 256 256)) (hi : Blk w P 99 (GI (List.replicate 256 z0I)).toArray) (hq : Qs w B T d (List.replicate 32 (bs zT))) : JbAt w (bJ A c (some ⟨P, 0, none⟩) T d) := by
  refine ⟨fun k hk => ?_, fun k hk => ?_, by show 32 ≤ maxLen; unfold maxLen; omega, by show 32 ≤ maxLen; unfold maxLen; omega⟩
  · have hk2 : k < 32 := hk
    obtain ⟨g, rfl, h1, _⟩ := own_cell hp (by omega)
    refine ⟨⟨g, 0, none⟩, rfl, ?_, by show 256 ≤ maxLen; unfold maxLen; omega, blk_is hi⟩
    rw [add_mk, Nat.zero_add, h1 k (by omega), List.getElem?_replicate, if_pos hk2]
    rfl
  · have hk2 : k < 32 := hk
    have hq : w.ownsRow B 9 1 (.slice T 32 d) 32 (Strs (List.replicate 32 (bs zT))) := by have := hq; unfold Qs at this; rw [List.length_replicate] at this; exact this
    obtain ⟨g, rfl, h1, _⟩ := own_cell hq (by omega)
    refine ⟨⟨g, 0, none⟩, rfl, ?_⟩
    rw [add_mk, Nat.zero_add, h1 k (by omega)]
    simp only [Strs, List.map_replicate]
    rw [List.getElem?_replicate, if_pos hk2]
    rfl
/-! ## The word of 65 bytes -/
def WV (q : Nat) : List UInt8 := List.replicate q 120 ++ List.replicate (65 - q) 0
theorem wv_next {w : World} {E q : Nat} (hq : q < 65) (h : Blk w E 5 (U8s (WV q)).toArray) : Blk (w.setCell ⟨E, q, none⟩ (.int .u8 120)) E 5 (U8s (WV (q + 1))).toArray := by
  have e : (U8s (WV q)).toArray.setIfInBounds q (.int .u8 120) = (U8s (WV (q + 1))).toArray := by
    rw [List.setIfInBounds_toArray]
    congr 1
    have e1 : WV q = List.replicate q 120 ++ 0 :: List.replicate (64 - q) 0 := by unfold WV; rw [show 65 - q = (64 - q) + 1 by omega, List.replicate_succ]
    have e2 : WV (q + 1) = List.replicate q 120 ++ 120 :: List.replicate (64 - q) 0 := by unfold WV; rw [show 65 - (q + 1) = 64 - q by omega, List.replicate_succ', List.append_assoc]; rfl
    have h0 := set_appN (U8s (List.replicate q 120)) (U8s (0 :: List.replicate (64 - q) 0)) 0 (.int .u8 120)
    rw [length_U8s, List.length_replicate, Nat.add_zero] at h0
    rw [e1, e2, U8s_append, U8s_append, h0]
    rfl
  rw [← e]
  exact h.set_ q _
theorem wv_zero : WV 0 = List.replicate 65 0 := by simp [WV]
end Go.Proofs.YteblhklclcjonaaGreatDoor
namespace Go.Proofs.YteblhklclcjonaaGreatDoor
open Go.RowKit
set_option linter.unusedVariables false
set_option linter.all false
set_option maxRecDepth 100000
attribute [local go_sem ↓] app_hide

theorem par_textd {J : Jb} {n : Nat} {f : Nat → Ev} (h : GoodJE J n f) : ∃ v, parF (scrT J n f) = (some ⟨v, psL J.pn J.P, tsL J.tn J.T, evL n f⟩, 0, 0) ∧ (∀ q, q < 6 → v q = v9 J q) ∧ GoodS ⟨v, psL J.pn J.P, tsL J.tn J.T, evL n f⟩ := by
  have hg := good_sc h
  obtain ⟨v, h1, h2⟩ := par_back hg (scrB_all hg)
  rw [scrT_B]
  refine ⟨v, h1, h2, ?_, hg.p0, hg.pl, hg.pg, hg.tl, hg.tg, hg.el, hg.eg⟩
  show numOk v = true
  rw [numOk_congr h2]
  exact hg.v
def bsA : Array Value := #[.string ⟨#[]⟩, .string ⟨#[10]⟩, .string ⟨#[106, 111, 98, 32, 49, 32, 49, 32, 49, 32, 49, 32, 50, 53, 54, 32, 53]⟩, .string (⟨#[106, 111, 98, 32, 49, 32, 49, 32, 49, 32, 49, 32, 50, 53, 54, 32, 53, 10]⟩ ++ ⟨#[106, 111, 98, 32, 49, 32, 49, 32, 49, 32, 49, 32, 50, 53, 54, 32, 53, 10]⟩), .string (⟨#[106, 111, 98, 32, 49, 32, 49, 32, 49, 32, 49, 32, 50, 53, 54, 32, 53, 10]⟩ ++ ⟨#[101, 110, 100, 10]⟩), .string (⟨#[106, 111, 98, 32, 49, 32, 49, 32, 49, 32, 49, 32, 50, 53, 54, 32, 53, 10]⟩ ++ ⟨#[114, 117, 110, 32, 49, 10]⟩), .string (⟨#[106, 111, 98, 32, 49, 32, 49, 32, 49, 32, 49, 32, 50, 53, 54, 32, 53, 10]⟩ ++ ⟨#[116, 101, 120, 116, 32, 97, 10]⟩), .string (⟨#[106, 111, 98, 32, 49, 32, 49, 32, 49, 32, 49, 32, 50, 53, 54, 32, 53, 10]⟩ ++ ⟨#[112, 114, 111, 103, 114, 97, 109, 10, 116, 101, 120, 116, 32, 97, 10, 112, 114, 111, 103, 114, 97, 109, 10]⟩), .string (⟨#[106, 111, 98, 32, 49, 32, 49, 32, 49, 32, 49, 32, 50, 53, 54, 32, 53, 10]⟩ ++ ⟨#[112, 114, 111, 103, 114, 97, 109, 10, 114, 117, 110, 32, 49, 10, 116, 101, 120, 116, 32, 97, 10]⟩), .string (⟨#[106, 111, 98, 32, 49, 32, 49, 32, 49, 32, 49, 32, 50, 53, 54, 32, 53, 10]⟩ ++ ⟨#[112, 114, 111, 103, 114, 97, 109, 10, 114, 117, 110, 32, 49, 10, 101, 110, 100, 10]⟩), .string (⟨#[106, 111, 98, 32, 49, 32, 49, 32, 49, 32, 49, 32, 50, 53, 54, 32, 53, 10]⟩ ++ ⟨#[112, 114, 111, 103, 114, 97, 109, 10, 114, 117, 110, 32, 49]⟩), .string (⟨#[106, 111, 98, 32, 49, 32, 49, 32, 49, 32, 49, 32, 50, 53, 54, 32, 53, 10]⟩ ++ ⟨#[112, 114, 111, 103, 114, 97, 109, 10, 116, 105, 99, 107, 32, 50, 10, 116, 105, 99, 107, 32, 49, 10]⟩), .string (⟨#[106, 111, 98, 32, 49, 32, 49, 32, 49, 32, 49, 32, 50, 53, 54, 32, 53, 10]⟩ ++ ⟨#[112, 114, 111, 103, 114, 97, 109, 10, 116, 101, 120, 116, 32, 10]⟩), .string (⟨#[106, 111, 98, 32, 49, 32, 49, 32, 49, 32, 49, 32, 50, 53, 54, 32, 53, 10]⟩ ++ ⟨#[112, 114, 111, 103, 114, 97, 109, 10, 116, 101, 120, 116, 32, 97, 32, 98, 10]⟩), .string (⟨#[106, 111, 98, 32, 49, 32, 49, 32, 49, 32, 49, 32, 50, 53, 54, 32, 53, 10]⟩ ++ ⟨#[112, 114, 111, 103, 114, 97, 109, 10, 102, 108, 121, 10]⟩), .string (⟨#[106, 111, 98, 32, 49, 32, 49, 32, 49, 32, 49, 32, 50, 53, 54, 32, 53, 10]⟩ ++ ⟨#[112, 114, 111, 103, 114, 97, 109, 10, 114, 117, 110, 32, 56, 49, 57, 51, 10]⟩), .string ⟨#[106, 111, 98, 32, 49, 32, 49, 32, 49, 32, 49, 32, 50, 54, 48, 32, 53, 10, 112, 114, 111, 103, 114, 97, 109, 10]⟩]
def biA : Array Value := #[.int .i64 0, .int .i64 0, .int .i64 0, .int .i64 1, .int .i64 1, .int .i64 1, .int .i64 1, .int .i64 3, .int .i64 3, .int .i64 3, .int .i64 2, .int .i64 3, .int .i64 2, .int .i64 2, .int .i64 2, .int .i64 2, .int .i64 0]
theorem bsA_get (q : Nat) (h : q < 17) : bsA[q]? = some (.string (bs (btx q))) ∧ biA[q]? = some (.int .i64 (atx q)) := by
  rcases (by omega : q = 0 ∨ q = 1 ∨ q = 2 ∨ q = 3 ∨ q = 4 ∨ q = 5 ∨ q = 6 ∨ q = 7 ∨ q = 8 ∨ q = 9 ∨ q = 10 ∨ q = 11 ∨ q = 12 ∨ q = 13 ∨ q = 14 ∨ q = 15 ∨ q = 16) with h | h | h | h | h | h | h | h | h | h | h | h | h | h | h | h | h
  all_goals (subst h; exact ⟨by kernel_rfl, by kernel_rfl⟩)
theorem manyL_len : ∀ q, (manyL q).length = 18 + 8 * q
  | 0 => rfl
  | q + 1 => by rw [manyL_next, List.length_append, manyL_len q]; show 18 + 8 * q + 8 = _; omega
theorem wv_cell {w : World} {E q : Nat} (hq : q < 65) (h : Blk w E 5 (U8s (WV q)).toArray) : w.cell? ⟨E, q, none⟩ = some (.int .u8 0) := by
  rw [h.cell, List.getElem?_toArray, U8s_get]
  unfold WV
  rw [List.getElem?_append_right (by simp), List.length_replicate, Nat.sub_self, List.getElem?_replicate, if_pos (by omega)]
  rfl
def s9 (a b c : Value) : Array Value := #[.int .i64 16, .int .i64 8, .int .i64 32, .int .i64 100, .int .i64 65536, .int .i64 31, a, b, c]
def pv (X : Nat) : Value := .slice (some ⟨X, 0, none⟩) 256 256
/-- The script behind q rounds of the first loop. -/
def L1 (w wr : World) (X q : Nat) (A : Option Addr) (c : Nat) (T : Option Addr) (d : Nat) : Prop :=
  Blk wr (X + 1) 54 (s9 (.slice A q c) (.slice T q d) (.slice none 0 0)) ∧ Rw wr (X + 2) A c q (pv X) ∧ Qs wr (X + 2) T d (List.replicate q (bs zT)) ∧ Blk wr X 99 (GI (List.replicate 256 z0I)).toArray ∧ Only [] w wr ∧ X + 2 ≤ wr.heap.size
def L1E (w wr : World) (X q : Nat) : Prop := ∃ A c T d, L1 w wr X q A c T d
theorem L1_start (w : World) : L1E w ((w.alloc (.cells (GI (List.replicate 256 z0I)).toArray 99)).alloc (.cells (s9 (.slice none 0 0) (.slice none 0 0) (.slice none 0 0)) 54)) w.heap.size 0 := by
  refine ⟨none, 0, none, 0, ?_, World.ownsRow_nil .., World.ownsRow_nil .., (Blk.new w 99 _).alloc _, ((Only.refl [] w).alloc _).alloc _, by simp⟩
  have := Blk.new (w.alloc (.cells (GI (List.replicate 256 z0I)).toArray 99)) 54 (s9 (.slice none 0 0) (.slice none 0 0) (.slice none 0 0))
  rw [World.size_alloc] at this
  exact this
/-- The script behind q rounds of the second loop. -/
def L2 (w wr : World) (X E : Nat) (A : Option Addr) (c : Nat) (T : Option Addr) (d q : Nat) : Prop :=
  Blk wr (X + 1) 54 (s9 (.slice A 32 c) (.slice T 32 d) (.slice (some ⟨E, 0, none⟩) 8192 8192)) ∧ Rw wr (X + 2) A c 32 (pv X) ∧ Qs wr (X + 2) T d (List.replicate 32 (bs zT)) ∧ Blk wr X 99 (GI (List.replicate 256 z0I)).toArray ∧ Only [] w wr ∧ Blk wr E 24 (EvV (EV q)).toArray ∧ w.heap.size = X ∧ X + 2 ≤ E
theorem ev_cell {wr : World} {E q : Nat} (hq : q < 8192) (h : Blk wr E 24 (EvV (EV q)).toArray) : wr.cell? ⟨E, q * 2, none⟩ = some (.int .i64 0) ∧ wr.cell? ⟨E, q * 2 + 1, none⟩ = some (.int .i64 0) := by
  have hx : (EV q)[q]? = some ⟨0, 0⟩ := by
    rw [EV_split hq, List.getElem?_append_right (by simp)]
    simp
  obtain ⟨a, b⟩ := EvV_get hx
  rw [h.cell, h.cell, List.getElem?_toArray, List.getElem?_toArray, a, b]
  exact ⟨rfl, rfl⟩
set_option maxHeartbeats 16000000 in
theorem sbounds_any (w : World) (he : Env w) (hw4 : 4 ≤ w.heap.size) : Calls Tryz.prog 5 #[] w fun e w' => e = .returned (.bool true) ∧ Only [] w w' := by
  have LS := L1_start w
  obtain ⟨IZ, hIZ⟩ : ∃ z, (GI (List.replicate 256 z0I)).toArray = z := ⟨_, rfl⟩
  have mi := made_ins
  rw [hIZ] at mi LS
  have LS := hide LS
  have HE := hide he
  clear he
  obtain ⟨X, hX⟩ : ∃ X, w.heap.size = X := ⟨_, rfl⟩
  unfold s9 at LS
  rw [hX] at LS
  go_enter Tryz.func5, Tryz.ntmps5
  go_wp2_with fail
  obtain ⟨V, hV⟩ : ∃ V, (w.alloc (.cells IZ 99)).alloc (.cells #[.int .i64 16, .int .i64 8, .int .i64 32, .int .i64 100, .int .i64 65536, .int .i64 31, .slice none 0 0, .slice none 0 0, .slice none 0 0] 54) = V := ⟨_, rfl⟩
  rw [hV] at LS ⊢
  clear hV mi hIZ
  go_loopw [3] (fun v3 wr => ∃ q : Nat, q ≤ 32 ∧ v3 = .int .i64 q ∧ Hid (L1E w wr X q)) (fun v3 _ => 32 - (intOf v3).toNat)
  case atStart => exact ⟨0, by omega, rfl, LS⟩
  case round =>
    clear LS
    obtain ⟨q, hq, rfl, hL⟩ := hrel
    obtain ⟨A, c, T, d, hS, hR, hQ, hI, hO, hsz⟩ := hL.out
    by_cases hqn : q < 32
    · have j1 : (q : Int) < 32 := by omega
      obtain ⟨gA, cA, w2, hrun1, hR2, o2⟩ := app_row wr (X + 2) A c q (pv X) rfl hR (by omega) hsz
      have hS2 := hS.only o2 (own_ne hR hS (by decide))
      have hI2 := hI.only o2 (own_ne hR hI (by decide))
      have hQ2 := own_only' hQ o2 (fun k hk hk2 => own_apart hQ hR (by decide) k hk hk2)
      have hO2 := hO.trans o2 (fun k hk => .inr (by have := (own_ge hR k hk).1; omega))
      have c6 := hS.cell 6
      have d6 := hS2.cell 6
      have f6 := hS2.frozen 6
      have hs2 := o2.size
      have o3 : Only [X + 1] w2 (w2.setCell ⟨X + 1, 6, none⟩ (.slice (some ⟨gA, 0, none⟩) (q + 1) cA)) := (Only.refl [X + 1] w2).setCell (.inl (by simp)) _
      have hS3 : Blk (w2.setCell ⟨X + 1, 6, none⟩ (.slice (some ⟨gA, 0, none⟩) (q + 1) cA)) (X + 1) 54 (s9 (.slice (some ⟨gA, 0, none⟩) (q + 1) cA) (.slice T q d) (.slice none 0 0)) := hS2.set_ 6 _
      have hR3 : Rw (w2.setCell ⟨X + 1, 6, none⟩ (.slice (some ⟨gA, 0, none⟩) (q + 1) cA)) (X + 2) (some ⟨gA, 0, none⟩) cA (q + 1) (pv X) := own_only' hR2 o3 (fun k hk => by have := (own_ge hR2 k hk).1; simp; omega)
      have hQ3 := own_only' hQ2 o3 (fun k hk => by have := (own_ge hQ2 k hk).1; simp; omega)
      have hI3 := hI2.only o3 (by simp)
      have hO3 := hO2.trans o3 (fun k hk => .inr (by simp at hk; omega))
      have hs3 := o3.size
      clear hS hR hQ hI hO hS2 hR2 hQ2 hI2 hO2 o2 o3
      unfold s9 at hS3 c6 d6
      unfold pv at hrun1
      go_wp2_with fail
      obtain ⟨V3, hV3⟩ : ∃ V, w2.setCell ⟨X + 1, 6, none⟩ (.slice (some ⟨gA, 0, none⟩) (q + 1) cA) = V := ⟨_, rfl⟩
      rw [hV3] at hS3 hR3 hQ3 hI3 hO3 hs3 ⊢
      clear hV3 c6 d6 f6 hrun1
      have hcv := conv_new V3.drew 64
      have mb := made_bytes 64 (by omega)
      have hs4 : (V3.drew.alloc (.cells (U8s (List.replicate 64 0)).toArray 5)).heap.size = V3.heap.size + 1 := World.size_alloc _ _
      have o4 : Only [] V3 (V3.drew.alloc (.cells (U8s (List.replicate 64 0)).toArray 5)) := ((Only.refl [] V3).drew).alloc _
      obtain ⟨gT, cT, w5, hrun2, hQ5, o5⟩ := app_str (V3.drew.alloc (.cells (U8s (List.replicate 64 0)).toArray 5)) (X + 2) T d (List.replicate q (bs zT)) (bs zT) (own_only' hQ3 o4 (by simp)) (by simp; omega) (by rw [hs4]; omega)
      rw [hs4, List.length_replicate] at hrun2
      rw [← List.replicate_succ'] at hQ5
      have htz : bs zT = bs (List.replicate 64 0) := rfl
      rw [htz] at hrun2
      obtain ⟨BZ, hBZ⟩ : ∃ z, (U8s (List.replicate 64 0)).toArray = z := ⟨_, rfl⟩
      obtain ⟨tz, htz2⟩ : ∃ z, bs (List.replicate 64 0) = z := ⟨_, rfl⟩
      rw [hBZ] at mb hcv hrun2 o4 o5 hs4
      rw [htz2] at hcv hrun2
      have hcv : (convert 68 9 (.slice (some ⟨V3.heap.size, 0, none⟩) 64 64)).run Tryz.prog (V3.alloc (.cells BZ 5)).drew = .ok (.string tz) (V3.alloc (.cells BZ 5)).drew := hcv
      have hrun2 : (AppH #[50, 50] 50 #[.slice T q d, .slice (some ⟨V3.heap.size + 1, 0, none⟩) 1 1]).run Tryz.prog ((V3.alloc (.cells BZ 5)).alloc (.cells #[.string tz] 9)).drew = .ok (.slice (some ⟨gT, 0, none⟩) (q + 1) cT) w5 := hrun2
      have mb : ∀ W : World, (Instr.makeSlice 68 (.int .i64 64) (.int .i64 64)).run Tryz.prog W = .ok (.slice (some ⟨W.heap.size, 0, none⟩) 64 64) (W.alloc (.cells BZ 5)) := mb
      have c7 := hS3.cell 7
      have c7b := (hS3.alloc (.cells BZ 5)).cell 7
      have c7c := ((hS3.alloc (.cells BZ 5)).alloc (.cells #[.string tz] 9)).cell 7
      have hS4 := hS3.only o4 (by simp)
      have hQ4 := own_only' hQ3 o4 (by simp)
      have hS5 := hS4.only o5 (own_ne hQ4 hS4 (by decide))
      have hR4 := own_only' hR3 o4 (by simp)
      have hR5 := own_only' hR4 o5 (fun k hk hk2 => own_apart hR4 hQ4 (by decide) k hk hk2)
      have hI5 := (hI3.only o4 (by simp)).only o5 (own_ne hQ4 (hI3.only o4 (by simp)) (by decide))
      have hO5 := (hO3.trans0 o4).trans o5 (fun k hk => .inr (by have := (own_ge hQ4 k hk).1; omega))
      have d7 := hS5.cell 7
      have f7 := hS5.frozen 7
      have hs5 := o5.size
      have KS := hide hS5
      have KR := hide hR5
      have KQ := hide hQ5
      have KI := hide hI5
      have KO := hide hO5
      clear hS3 hR3 hQ3 hI3 hO3 o4 o5 hS4 hQ4 hS5 hR4 hR5 hI5 hO5 hQ5 htz htz2 hBZ
      go_region
      go_wp2_with fail
      go_roundw
      case rel => exact ⟨q + 1, by omega, by go_num, hide ⟨some ⟨gA, 0, none⟩, cA, some ⟨gT, 0, none⟩, cT, KS.out.set_ 7 _, own_only' KR.out ((Only.refl [X + 1] w5).setCell (p := ⟨X + 1, 7, none⟩) (.inl (by simp)) _) (fun k hk => by have := (own_ge KR.out k hk).1; simp; omega), own_only' KQ.out ((Only.refl [X + 1] w5).setCell (p := ⟨X + 1, 7, none⟩) (.inl (by simp)) _) (fun k hk => by have := (own_ge KQ.out k hk).1; simp; omega), KI.out.only ((Only.refl [X + 1] w5).setCell (p := ⟨X + 1, 7, none⟩) (.inl (by simp)) _) (by simp), KO.out.setCell (p := ⟨X + 1, 7, none⟩) (.inr (by simp only; omega)) _, by simp; omega⟩⟩
      case measure => simp [intOf]; omega
    · obtain rfl : q = 32 := by omega
      clear hL hq hqn
      have me := made_evs
      obtain ⟨EZ, hEZ⟩ : ∃ z, (EvV (EV 0)).toArray = z := ⟨_, rfl⟩
      simp only [hEZ] at me
      obtain ⟨E, hE⟩ : ∃ e, wr.heap.size = e := ⟨_, rfl⟩
      have o1 : Only [] wr (wr.alloc (.cells EZ 24)) := (Only.refl [] wr).alloc _
      have hS1 := hS.only o1 (by simp)
      have c8 := hS1.cell 8
      have f8 := hS1.frozen 8
      have bE := Blk.new wr 24 EZ
      rw [hE] at bE
      have hES : E ≠ X + 1 := Blk.ne_ bE hS1 (by decide)
      have o2 : Only [X + 1] wr ((wr.alloc (.cells EZ 24)).setCell ⟨X + 1, 8, none⟩ (.slice (some ⟨E, 0, none⟩) 8192 8192)) := (o1.mono (by simp)).setCell (.inl (by simp)) _
      have hS2 : Blk ((wr.alloc (.cells EZ 24)).setCell ⟨X + 1, 8, none⟩ (.slice (some ⟨E, 0, none⟩) 8192 8192)) (X + 1) 54 (s9 (.slice A 32 c) (.slice T 32 d) (.slice (some ⟨E, 0, none⟩) 8192 8192)) := hS1.set_ 8 _
      have hR2 := own_only' hR o2 (fun k hk => by have := (own_ge hR k hk).1; simp; omega)
      have hQ2 := own_only' hQ o2 (fun k hk => by have := (own_ge hQ k hk).1; simp; omega)
      have hI2 := hI.only o2 (by simp)
      have hO2 := hO.trans o2 (fun k hk => .inr (by simp at hk; omega))
      have bE2 : Blk ((wr.alloc (.cells EZ 24)).setCell ⟨X + 1, 8, none⟩ (.slice (some ⟨E, 0, none⟩) 8192 8192)) E 24 EZ := bE.far hES _
      have LS := hide (show L2 w ((wr.alloc (.cells EZ 24)).setCell ⟨X + 1, 8, none⟩ (.slice (some ⟨E, 0, none⟩) 8192 8192)) X E A c T d 0 from ⟨hS2, hR2, hQ2, hI2, hO2, by rw [hEZ]; exact bE2, hX, by omega⟩)
      clear hS hR hQ hI hO o1 hS1 bE o2 hS2 hR2 hQ2 hI2 hO2 bE2 hEZ
      unfold s9 at c8
      go_wp2_with fail
      try simp only [hE]
      obtain ⟨V, hV⟩ : ∃ V, (wr.alloc (.cells EZ 24)).setCell ⟨X + 1, 8, none⟩ (.slice (some ⟨E, 0, none⟩) 8192 8192) = V := ⟨_, rfl⟩
      rw [hV] at LS ⊢
      clear hV c8 f8 me hE
      go_loopw [4] (fun v4 wr => ∃ q : Nat, q ≤ 8192 ∧ v4 = .int .i64 q ∧ Hid (L2 w wr X E A c T d q)) (fun v4 _ => 8192 - (intOf v4).toNat)
      case atStart => exact ⟨0, by omega, rfl, LS⟩
      case round =>
        clear LS
        obtain ⟨q, hq, rfl, hL⟩ := hrel
        obtain ⟨hS, hR, hQ, hI, hO, hE, hwX, hEX⟩ := hL.out
        by_cases hqn : q < 8192
        · have j0 : (0 : Int) ≤ (q : Int) := by omega
          have j1 : (q : Int) < 8192 := by omega
          have c8 := hS.cell 8
          obtain ⟨c0, c1⟩ := ev_cell hqn hE
          have f0 := hE.frozen (q * 2)
          have f1 := hE.frozen (q * 2 + 1)
          have o1 : Only [E] wr ((wr.setCell ⟨E, q * 2, none⟩ (.int .i64 1)).setCell ⟨E, q * 2 + 1, none⟩ (.int .i64 0)) := ((Only.refl [E] wr).setCell (p := ⟨E, q * 2, none⟩) (.inl (by simp)) _).setCell (p := ⟨E, q * 2 + 1, none⟩) (.inl (by simp)) _
          have LN := hide (show L2 w ((wr.setCell ⟨E, q * 2, none⟩ (.int .i64 1)).setCell ⟨E, q * 2 + 1, none⟩ (.int .i64 0)) X E A c T d (q + 1) from ⟨hS.only o1 (by simp; omega), own_only' hR o1 (fun k hk hk2 => by simp at hk2; subst hk2; exact own_ne hR hE (by decide) hk), own_only' hQ o1 (fun k hk hk2 => by simp at hk2; subst hk2; exact own_ne hQ hE (by decide) hk), hI.only o1 (by simp; omega), hO.trans o1 (fun k hk => .inr (by simp at hk; omega)), ev_next hqn hE, hwX, hEX⟩)
          clear hS hR hQ hI hO hE o1 hL
          unfold s9 at c8
          go_wp2_with fail
          go_roundw
          case rel => exact ⟨q + 1, by omega, by go_num, LN⟩
          case measure => simp [intOf]; omega
        · obtain rfl : q = 8192 := by omega
          clear hL hq hqn
          have hEs := blk_es hEX hE
          have HES := hide (es_run hEs)
          have hJA := jb_b (P := X) hR hI hQ
          have hgd := good_b A c (some ⟨X, 0, none⟩) T d
          have hElt := hE.lt
          have hEne : E ≠ X + 1 := by omega
          have hfin := par_b A c (some ⟨X, 0, none⟩) T d
          obtain ⟨v', hpar, hv', hgs⟩ := par_textd hgd
          have hlen : (scrT (bJ A c (some ⟨X, 0, none⟩) T d) 8192 runF).length ≤ 700000 := by rw [scrT_B]; exact scrB_700 (good_sc hgd)
          obtain ⟨S, hSd⟩ : ∃ S : Sc, ⟨v', psL (bJ A c (some ⟨X, 0, none⟩) T d).pn (bJ A c (some ⟨X, 0, none⟩) T d).P, tsL (bJ A c (some ⟨X, 0, none⟩) T d).tn (bJ A c (some ⟨X, 0, none⟩) T d).T, evL 8192 runF⟩ = S := ⟨_, rfl⟩
          rw [hSd] at hpar hgs
          have hSn : S.es.length = 8192 := by rw [← hSd]; exact evL_len _ _
          have TX := fun W (o : Only [] wr W) => stext_good (bJ A c (some ⟨X, 0, none⟩) T d) (some ⟨E, 0, none⟩) 8192 8192 runF W (HE.out.only (hO.trans0 o)) (jb_only0 hJA o) (HES.out.only0 o) (fun a ha => by cases ha; have := o.size; simp only; omega) hgd
          obtain ⟨lT, hlT⟩ : ∃ l, scrT (bJ A c (some ⟨X, 0, none⟩) T d) 8192 runF = l := ⟨_, rfl⟩
          rw [hlT] at TX hpar hlen hfin
          obtain ⟨s1, hs1⟩ : ∃ s, bs lT = s := ⟨_, rfl⟩
          have PT1 := hide (fun W (o : Only [] wr W) => (show Calls Tryz.prog 29 #[.string s1] W fun e w' => (∃ a0 a1 a2 a3 a4 a5 pX pn pk tX tn tk EA ec, e = .returned (.tuple #[.agg #[.int .i64 a0, .int .i64 a1, .int .i64 a2, .int .i64 a3, .int .i64 a4, .int .i64 a5, .slice pX pn pk, .slice tX tn tk, .slice EA 8192 ec], .int .i64 0, .int .i64 0])) ∧ Only [] W w' from by
            have h := sparse_any lT (by omega) W (HE.out.only (hO.trans0 o)) (by have := (hO.trans0 o).size; omega)
            rw [hpar, hs1] at h
            refine h.mono ?_
            rintro e w' ⟨⟨PA, pk, vs, TA, tc, EA, ec, rfl, _⟩, o'⟩
            rw [hSn]
            exact ⟨⟨_, _, _, _, _, _, _, _, _, _, _, _, _, _, rfl⟩, o'⟩))
          have hcat1 : s1 ++ (⟨#[116, 105, 99, 107, 32, 49, 10]⟩ : ByteArray) = bs (lT ++ tickL) := by rw [← hs1]; exact bs_cat lT tickL
          have z1 : ¬ 9223372036854775807 < s1.size + (⟨#[116, 105, 99, 107, 32, 49, 10]⟩ : ByteArray).size := by rw [← hs1, bs_size, show (⟨#[116, 105, 99, 107, 32, 49, 10]⟩ : ByteArray).size = 7 from rfl]; omega
          obtain ⟨s2, hs2⟩ : ∃ s, bs (lT ++ tickL) = s := ⟨_, rfl⟩
          rw [hs2] at hcat1
          have PT2 := hide (fun W (o : Only [] wr W) => (show Calls Tryz.prog 29 #[.string s2] W fun e w' => e = .returned (.tuple #[.agg #[.int .i64 0, .int .i64 0, .int .i64 0, .int .i64 0, .int .i64 0, .int .i64 0, .slice none 0 0, .slice none 0 0, .slice none 0 0], .int .i64 8258, .int .i64 4]) ∧ Only [] W w' from by
            have h := sparse_any (lT ++ tickL) (by rw [List.length_append, show tickL.length = 7 from rfl]; omega) W (HE.out.only (hO.trans0 o)) (by have := (hO.trans0 o).size; omega)
            rw [hfin, hs2] at h
            exact h))
          have TX := hide (fun W (o : Only [] wr W) => (show Calls Tryz.prog 23 #[.agg #[.int .i64 16, .int .i64 8, .int .i64 32, .int .i64 100, .int .i64 65536, .int .i64 31, .slice A 32 c, .slice T 32 d, .slice (some ⟨E, 0, none⟩) 8192 8192]] W fun e w' => e = .returned (.tuple #[.string s1, .int .i64 0]) ∧ Only [] W w' from by rw [← hs1]; exact TX W o))
          have OU := hide (Only.refl [] wr)
          have HS := hide hS
          have HR := hide hR
          have HQ := hide hQ
          have HI := hide hI
          have HO := hide hO
          have HEs := hide hEs
          have HE2 := hide (show X + 2 ≤ wr.heap.size by omega)
          have HE3 := hide hEne
          have HWX := hide hwX
          unfold s9 at HS
          have x0 := HS.out.cell 0; have x1 := HS.out.cell 1; have x2 := HS.out.cell 2; have x3 := HS.out.cell 3; have x4 := HS.out.cell 4; have x5 := HS.out.cell 5; have x6 := HS.out.cell 6; have x7 := HS.out.cell 7; have x8 := HS.out.cell 8
          clear hS hR hQ hI hO hE hEs hJA hgd hElt hEne hfin hpar hv' hgs hlen hSd hSn hlT hs1 hs2 HES
          go_wp2_with (first
            | (go_at_call 23; (with_reducible refine (TX.out _ OU.out).mono ?_); rintro e w3 ⟨rfl, o⟩; have OU := hide (OU.out.trans0 o); clear o TX x0 x1 x2 x3 x4 x5 x6 x7 x8)
            | (go_at_call 29; (with_reducible refine (PT1.out _ OU.out).mono ?_); rintro e w4 ⟨⟨a0, a1, a2, a3, a4, a5, pX, pn, pk, tX, tn, tk, EA, ec, rfl⟩, o⟩; have HY4 := hide (show X + 2 ≤ w4.heap.size from Nat.le_trans HE2.out (OU.out.trans0 o).size); have BY := hide (Blk.new w4 54 #[.int .i64 a0, .int .i64 a1, .int .i64 a2, .int .i64 a3, .int .i64 a4, .int .i64 a5, .slice pX pn pk, .slice tX tn tk, .slice EA 8192 ec]); have OU := hide (OU.out.trans0 (o.trans0 ((Only.refl [] w4).alloc (.cells #[.int .i64 a0, .int .i64 a1, .int .i64 a2, .int .i64 a3, .int .i64 a4, .int .i64 a5, .slice pX pn pk, .slice tX tn tk, .slice EA 8192 ec] 54)))); clear o PT1)
            | (go_at_call 29; (with_reducible refine (PT2.out _ OU.out).mono ?_); rintro e w5 ⟨rfl, o⟩; have oz := o.trans0 ((Only.refl [] w5).alloc (.cells #[.int .i64 0, .int .i64 0, .int .i64 0, .int .i64 0, .int .i64 0, .int .i64 0, .slice none 0 0, .slice none 0 0, .slice none 0 0] 54)); have BY := hide (BY.out.only oz (by simp)); have OU := hide (OU.out.trans0 oz); obtain ⟨gE, cE, w6, hrunE, hE6, oE⟩ := app_ev (w5.alloc (.cells #[.int .i64 0, .int .i64 0, .int .i64 0, .int .i64 0, .int .i64 0, .int .i64 0, .slice none 0 0, .slice none 0 0, .slice none 0 0] 54)) (X + 2) (some ⟨E, 0, none⟩) 8192 (List.replicate 8192 ⟨1, 0⟩) ⟨2, 0⟩ (HEs.out.only0 OU.out) (by rw [List.length_replicate]; omega) (by have := OU.out.size; have := HE2.out; omega); rw [List.length_replicate, World.size_alloc] at hrunE; have HE6 := hide hE6; have OE := hide oE; have B6 := hide (HS.out.only OU.out (by simp)); have B6b := hide (B6.out.only oE (by simp [blkOf]; have := HE3.out; omega)); have x8 := B6.out.cell 8; have d8 := B6b.out.cell 8; have f8 := B6b.out.frozen 8; have B7 := hide (B6b.out.set_ 8 (.slice (some ⟨gE, 0, none⟩) 8193 cE)); have y0 := B7.out.cell 0; have y1 := B7.out.cell 1; have y2 := B7.out.cell 2; have y3 := B7.out.cell 3; have y4 := B7.out.cell 4; have y5 := B7.out.cell 5; have y6 := B7.out.cell 6; have y7 := B7.out.cell 7; have y8 := B7.out.cell 8; clear o oz hE6 oE PT2))
          obtain ⟨U5, hU5⟩ : ∃ U, w5.alloc (.cells #[.int .i64 0, .int .i64 0, .int .i64 0, .int .i64 0, .int .i64 0, .int .i64 0, .slice none 0 0, .slice none 0 0, .slice none 0 0] 54) = U := ⟨_, rfl⟩
          rw [hU5] at hrunE BY OU OE B6
          have hR6 := own_only' (own_only' HR.out OU.out (by simp)) OE.out (fun k hk hk2 => by
            obtain ⟨cs, h1⟩ := own_ty HEs.out k hk2
            obtain ⟨cs', h2⟩ := own_ty HR.out k hk
            exact Blk.ne_ h1 h2 (by decide) rfl)
          have hQ6 := own_only' (own_only' HQ.out OU.out (by simp)) OE.out (fun k hk hk2 => by
            obtain ⟨cs, h1⟩ := own_ty HEs.out k hk2
            obtain ⟨cs', h2⟩ := own_ty HQ.out k hk
            exact Blk.ne_ h1 h2 (by decide) rfl)
          have hEm : ∀ k ∈ blkOf (some (⟨E, 0, none⟩ : Addr)), k = E := fun k hk => by simpa [blkOf] using hk
          have hI6 := (HI.out.only OU.out (by simp)).only OE.out (fun hk => by
            obtain ⟨cs, h1⟩ := own_ty HEs.out _ hk
            exact Blk.ne_ h1 HI.out (by decide) rfl)
          have hY6 := BY.out.only OE.out (fun hk => by
            obtain ⟨cs, h1⟩ := own_ty (HEs.out.only0 OU.out) _ hk
            exact Blk.ne_ h1 BY.out (by decide) rfl)
          obtain ⟨W7, hW7⟩ : ∃ W, w6.setCell ⟨X + 1, 8, none⟩ (.slice (some ⟨gE, 0, none⟩) 8193 cE) = W := ⟨_, rfl⟩
          have o7 : Only [X + 1] w6 W7 := by rw [← hW7]; exact (Only.refl [X + 1] w6).setCell (p := ⟨X + 1, 8, none⟩) (.inl (by simp)) _
          rw [hW7] at B7 y0 y1 y2 y3 y4 y5 y6 y7 y8 ⊢
          have hR7 := own_only' hR6 o7 (fun k hk => by have := (own_ge hR6 k hk).1; simp; omega)
          have hQ7 := own_only' hQ6 o7 (fun k hk => by have := (own_ge hQ6 k hk).1; simp; omega)
          have hI7 := hI6.only o7 (by simp)
          have hE7 : Es W7 (X + 2) (some ⟨gE, 0, none⟩) cE (List.replicate 8192 ⟨1, 0⟩ ++ [⟨2, 0⟩]) := own_only' HE6.out o7 (fun k hk => by have := (own_ge HE6.out k hk).1; simp; omega)
          obtain ⟨Y, hY⟩ : ∃ y, w4.heap.size = y := ⟨_, rfl⟩
          rw [hY] at BY hY6 HY4 ⊢
          have hYS : Y ≠ X + 1 := by have := HY4.out; omega
          have hY7 := hide (hY6.only o7 (by simpa using hYS))
          have O7 : Only [] w W7 := (((HO.out.trans0 OU.out).trans OE.out (fun k hk => by
            obtain ⟨cs, h1⟩ := own_ty HEs.out k hk
            have := hEm k hk
            exact .inr (by have := HE2.out; have := HWX.out; omega))).trans o7 (fun k hk => .inr (by have := HWX.out; simp at hk; omega)))
          have hEA := hE7.at_
          have hlE : (List.replicate 8192 (⟨1, 0⟩ : Ev) ++ [(⟨2, 0⟩ : Ev)]).length = 8193 := by simp
          rw [hlE] at hEA
          have hmE : ∀ k, k < 8193 → mayE (evF (List.replicate 8192 (⟨1, 0⟩ : Ev) ++ [(⟨2, 0⟩ : Ev)]) k) = true := fun k hk => by
            have hm : ∀ e ∈ List.replicate 8192 (⟨1, 0⟩ : Ev) ++ [(⟨2, 0⟩ : Ev)], mayE e = true := fun e he => by
              rcases List.mem_append.1 he with h | h
              · rw [List.mem_replicate] at h; rw [h.2]; rfl
              · simp at h; rw [h]; rfl
            unfold evF
            rw [List.getD_eq_getElem?_getD, List.getElem?_eq_getElem (by rw [hlE]; exact hk)]
            exact hm _ (List.getElem_mem _)
          obtain ⟨fE, hfE⟩ : ∃ f, evF (List.replicate 8192 (⟨1, 0⟩ : Ev) ++ [(⟨2, 0⟩ : Ev)]) = f := ⟨_, rfl⟩
          rw [hfE] at hEA hmE
          have hJ7 := jb_b (P := X) hR7 hI7 hQ7
          have hbad := bad_b A c (some ⟨X, 0, none⟩) T d (f := fE) hmE
          have CK := fun W (o : Only [] W7 W) => scheck_any (bJ A c (some ⟨X, 0, none⟩) T d) (some ⟨gE, 0, none⟩) 8193 cE fE W (jb_only0 hJ7 o) (hEA.only0 o) (by unfold maxLen; omega)
          have TB := fun W (o : Only [] W7 W) => stext_bad (bJ A c (some ⟨X, 0, none⟩) T d) (some ⟨gE, 0, none⟩) 8193 cE fE W (jb_only0 hJ7 o) (hEA.only0 o) (by unfold maxLen; omega) (by rw [hbad]; decide)
          simp only [hbad] at CK TB
          have CK := hide (fun W (o : Only [] W7 W) => (show Calls Tryz.prog 22 #[.agg #[.int .i64 16, .int .i64 8, .int .i64 32, .int .i64 100, .int .i64 65536, .int .i64 31, .slice A 32 c, .slice T 32 d, .slice (some ⟨gE, 0, none⟩) 8193 cE]] W fun e w' => e = .returned (.tuple #[.int .i64 0, .int .i64 3]) ∧ Only [] W w' from CK W o))
          have TB := hide (fun W (o : Only [] W7 W) => (show Calls Tryz.prog 23 #[.agg #[.int .i64 16, .int .i64 8, .int .i64 32, .int .i64 100, .int .i64 65536, .int .i64 31, .slice A 32 c, .slice T 32 d, .slice (some ⟨gE, 0, none⟩) 8193 cE]] W fun e w' => e = .returned (.tuple #[.string ⟨#[]⟩, .int .i64 3]) ∧ Only [] W w' from TB W o))
          have B7 := hide B7.out
          have O7 := hide O7
          have OX := hide (Only.refl [] W7)
          have mb := made_bytes 1048577 (by omega)
          have hcv := fun W => conv_new W 1048577
          have hbl : (List.replicate 1048577 (0 : UInt8)).length = 1048577 := List.length_replicate
          have PT3 := fun W (o : Only [] W7 W) => sparse_any (List.replicate 1048577 0) (by rw [hbl]; omega) W (HE.out.only (O7.out.trans0 o)) (by have := (O7.out.trans0 o).size; omega)
          rw [par_huge] at PT3
          obtain ⟨BZ, hBZ⟩ : ∃ z, (U8s (List.replicate 1048577 0)).toArray = z := ⟨_, rfl⟩
          obtain ⟨hz, hhz⟩ : ∃ z, bs (List.replicate 1048577 0) = z := ⟨_, rfl⟩
          simp only [hBZ, hhz] at mb hcv PT3
          have mb : ∀ W : World, (Instr.makeSlice 68 (.int .i64 1048577) (.int .i64 1048577)).run Tryz.prog W = .ok (.slice (some ⟨W.heap.size, 0, none⟩) 1048577 1048577) (W.alloc (.cells BZ 5)) := mb
          have PT3 := hide (fun W (o : Only [] W7 W) => (show Calls Tryz.prog 29 #[.string hz] W fun e w' => e = .returned (.tuple #[.agg #[.int .i64 0, .int .i64 0, .int .i64 0, .int .i64 0, .int .i64 0, .int .i64 0, .slice none 0 0, .slice none 0 0, .slice none 0 0], .int .i64 0, .int .i64 3]) ∧ Only [] W w' from PT3 W o))
          clear hW7 hY hU5 hR6 hQ6 hI6 hY6 o7 hR7 hQ7 hI7 hE7 hEA hlE hmE hfE hJ7 hbad hbl hBZ hhz hEm HR HQ HI HEs HE6 OE B6 B6b BY OU x8 d8 f8 hrunE HS HE3 hYS HY4
          go_wp2_with (first
            | (go_at_call 22; (with_reducible refine (CK.out _ OX.out).mono ?_); rintro e u1 ⟨rfl, o⟩; have OX := hide (OX.out.trans0 o); have B7 := hide (B7.out.only o (by simp)); clear y0 y1 y2 y3 y4 y5 y6 y7 y8; have y0 := B7.out.cell 0; have y1 := B7.out.cell 1; have y2 := B7.out.cell 2; have y3 := B7.out.cell 3; have y4 := B7.out.cell 4; have y5 := B7.out.cell 5; have y6 := B7.out.cell 6; have y7 := B7.out.cell 7; have y8 := B7.out.cell 8; clear o CK)
            | (go_at_call 23; (with_reducible refine (TB.out _ OX.out).mono ?_); rintro e u2 ⟨rfl, o⟩; have OX := hide ((OX.out.trans0 o).alloc (.cells BZ 5)); clear o TB y0 y1 y2 y3 y4 y5 y6 y7 y8)
            | (go_at_call 29; (with_reducible refine (PT3.out _ OX.out).mono ?_); rintro e u3 ⟨rfl, o⟩; have OX := hide ((OX.out.trans0 o).alloc (.cells #[.int .i64 0, .int .i64 0, .int .i64 0, .int .i64 0, .int .i64 0, .int .i64 0, .slice none 0 0, .slice none 0 0, .slice none 0 0] 54)); clear o PT3))
          obtain ⟨N, hN⟩ : ∃ n, u3.heap.size = n := ⟨_, rfl⟩
          have bL := (Blk.new (u3.alloc (.cells #[.int .i64 0, .int .i64 0, .int .i64 0, .int .i64 0, .int .i64 0, .int .i64 0, .slice none 0 0, .slice none 0 0, .slice none 0 0] 54)) 9 bsA).alloc (.cells biA 3)
          have bI := Blk.new ((u3.alloc (.cells #[.int .i64 0, .int .i64 0, .int .i64 0, .int .i64 0, .int .i64 0, .int .i64 0, .slice none 0 0, .slice none 0 0, .slice none 0 0] 54)).alloc (.cells bsA 9)) 3 biA
          have o6 := ((Only.refl [] (u3.alloc (.cells #[.int .i64 0, .int .i64 0, .int .i64 0, .int .i64 0, .int .i64 0, .int .i64 0, .slice none 0 0, .slice none 0 0, .slice none 0 0] 54))).alloc (.cells bsA 9)).alloc (.cells biA 3)
          simp only [World.size_alloc, hN] at bL bI
          obtain ⟨U6, hU6⟩ : ∃ U, ((u3.alloc (.cells #[.int .i64 0, .int .i64 0, .int .i64 0, .int .i64 0, .int .i64 0, .int .i64 0, .slice none 0 0, .slice none 0 0, .slice none 0 0] 54)).alloc (.cells bsA 9)).alloc (.cells biA 3) = U := ⟨_, rfl⟩
          rw [hU6] at bL bI o6
          unfold bsA biA at hU6
          rw [hU6]
          try simp only [hN]
          have OX := hide (OX.out.trans0 o6)
          have OC := hide (O7.out.trans0 OX.out)
          have BY := hide (hY7.out.only OX.out (by simp))
          have BL := hide bL
          have BI := hide bI
          have HX6 := hide (show X ≤ U6.heap.size by have := OC.out.size; omega)
          clear hU6 bL bI o6 hN B7 O7 OX hY7 mb hcv
          go_loopw [23] (fun v23 wr => ∃ q : Nat, q ≤ 17 ∧ v23 = .int .i64 q ∧ Hid (Only [] U6 wr)) (fun v23 _ => 17 - (intOf v23).toNat)
          case atStart => exact ⟨0, by omega, rfl, hide (Only.refl _ _)⟩
          case round =>
            obtain ⟨q, hq, rfl, hO3⟩ := hrel
            by_cases hqn : q < 17
            · have j0 : (0 : Int) ≤ (q : Int) := by omega
              have j1 : (q : Int) < 17 := by omega
              obtain ⟨g1, g2⟩ := bsA_get q hqn
              have cL := ((BL.out.only hO3.out (by simp)).cell q).trans g1
              have BI2 := hide (fun W (o : Only [] U6 W) => (((BI.out.only o (by simp)).cell q).trans g2))
              obtain ⟨hb1, hb2⟩ := btx_is q hqn
              have PQ := kpar_bad (btx q) (atx q) hb2 hb1 wr (HE.out.only (OC.out.trans0 hO3.out)) (by have := (OC.out.trans0 hO3.out).size; omega)
              obtain ⟨tq, htq⟩ : ∃ t, bs (btx q) = t := ⟨_, rfl⟩
              obtain ⟨aq, haq⟩ : ∃ a : Int, (atx q : Int) = a := ⟨_, rfl⟩
              rw [htq] at cL PQ
              rw [haq] at PQ
              simp only [haq] at BI2
              have e0 : (aq != aq) = false := by simp
              have PQ := hide PQ
              clear g1 g2 hb1 hb2 htq haq
              go_wp2_with (first
                | (go_at_call 29; (with_reducible refine PQ.out.mono ?_); rintro e v1 ⟨rfl, o⟩; have OZ := hide ((hO3.out.trans0 o).alloc (.cells #[.int .i64 0, .int .i64 0, .int .i64 0, .int .i64 0, .int .i64 0, .int .i64 0, .slice none 0 0, .slice none 0 0, .slice none 0 0] 54)); have cI := BI2.out _ OZ.out; clear o)
                | (go_at_call 12; (with_reducible refine (num_any _ _).mono ?_); rintro e v2 ⟨rfl, hw⟩; obtain rfl := hw.symm; clear hw))
              go_roundw
              case rel => exact ⟨q + 1, by omega, by go_num, OZ⟩
              case measure => simp [intOf]; omega
            · obtain rfl : q = 17 := by omega
              clear hqn hq
              go_wp2_with fail
              clear BL BI
              go_loopw [27, 28] (fun v27 v28 wr => ∃ q : Nat, q ≤ 33 ∧ v27 = .string (bs (manyL q)) ∧ v28 = .int .i64 q ∧ Hid (Only [] U6 wr)) (fun _ v28 _ => 33 - (intOf v28).toNat)
              case atStart => exact ⟨0, by omega, rfl, rfl, hO3⟩
              case round =>
                clear hO3
                obtain ⟨q, hq, rfl, rfl, hO4⟩ := hrel
                have hml := manyL_len q
                by_cases hqn : q < 33
                · have j1 : (q : Int) < 33 := by omega
                  have hcat : bs (manyL q) ++ (⟨#[112, 114, 111, 103, 114, 97, 109, 10]⟩ : ByteArray) = bs (manyL (q + 1)) := by rw [manyL_next]; exact bs_cat (manyL q) [112, 114, 111, 103, 114, 97, 109, 10]
                  have z1 : ¬ 9223372036854775807 < (bs (manyL q)).size + (⟨#[112, 114, 111, 103, 114, 97, 109, 10]⟩ : ByteArray).size := by rw [bs_size, show (⟨#[112, 114, 111, 103, 114, 97, 109, 10]⟩ : ByteArray).size = 8 from rfl]; omega
                  have hex : ∃ x, bs (manyL (q + 1)) = x := ⟨_, rfl⟩
                  obtain ⟨sn, hsn⟩ := hex
                  rw [hsn] at hcat
                  have HSN := hide hsn
                  clear hsn
                  go_wp2_with fail
                  go_roundw
                  case rel => exact ⟨q + 1, by omega, by rw [HSN.out], by go_num, hO4⟩
                  case measure => simp [intOf]; omega
                · obtain rfl : q = 33 := by omega
                  clear hqn hq hml
                  rw [manyL_33]
                  have mb := made_bytes 65 (by omega)
                  obtain ⟨BZ, hBZ⟩ : ∃ z, (U8s (List.replicate 65 0)).toArray = z := ⟨_, rfl⟩
                  simp only [hBZ] at mb
                  have mb : ∀ W : World, (Instr.makeSlice 68 (.int .i64 65) (.int .i64 65)).run Tryz.prog W = .ok (.slice (some ⟨W.heap.size, 0, none⟩) 65 65) (W.alloc (.cells BZ 5)) := mb
                  have bD := Blk.new wr 5 BZ
                  have o5 := (Only.refl [] wr).alloc (.cells BZ 5)
                  obtain ⟨D, hD⟩ : ∃ d, wr.heap.size = d := ⟨_, rfl⟩
                  have hUD : U6.heap.size ≤ D := by rw [← hD]; exact hO4.out.size
                  obtain ⟨tm, htm⟩ : ∃ t, bs btM = t := ⟨_, rfl⟩
                  rw [htm]
                  go_wp2_with fail
                  rw [hD] at bD
                  try simp only [hD]
                  obtain ⟨U7, hU7⟩ : ∃ U, wr.alloc (.cells BZ 5) = U := ⟨_, rfl⟩
                  rw [hU7] at bD o5 ⊢
                  rw [← hBZ, ← wv_zero] at bD
                  have BD := hide bD
                  have O7 := hide (hO4.out.trans0 o5)
                  have HTM := hide htm
                  clear hU7 bD o5 mb hBZ hO4 htm hD
                  go_loopw [30] (fun v30 wr => ∃ q : Nat, q ≤ 65 ∧ v30 = .int .i64 q ∧ Hid (Blk wr D 5 (U8s (WV q)).toArray) ∧ Hid (Only [] U6 wr)) (fun v30 _ => 65 - (intOf v30).toNat)
                  case atStart => exact ⟨0, by omega, rfl, BD, O7⟩
                  case round =>
                    clear BD O7
                    obtain ⟨q, hq, rfl, hB, hO5⟩ := hrel
                    by_cases hqn : q < 65
                    · have j0 : (0 : Int) ≤ (q : Int) := by omega
                      have j1 : (q : Int) < 65 := by omega
                      have c0 := wv_cell hqn hB.out
                      have f0 := hB.out.frozen q
                      have HN := hide (wv_next hqn hB.out)
                      have HO := hide (hO5.out.setCell (p := ⟨D, q, none⟩) (.inr (by simp only; omega)) (.int .u8 120))
                      go_wp2_with fail
                      go_roundw
                      case rel => exact ⟨q + 1, by omega, by go_num, HN, HO⟩
                      case measure => simp [intOf]; omega
                    · obtain rfl : q = 65 := by omega
                      clear hqn hq
                      have hwl : (WV 65).length = 65 := rfl
                      have hsw : (bs (WV 65)).size = 65 := by rw [bs_size, hwl]
                      have k1 : ((⟨#[106, 111, 98, 32, 49, 32, 49, 32, 49, 32, 49, 32, 50, 53, 54, 32, 53, 10]⟩ : ByteArray) ++ (⟨#[112, 114, 111, 103, 114, 97, 109, 10, 116, 101, 120, 116, 32]⟩ : ByteArray)) ++ bs (WV 65) = bs (([106, 111, 98, 32, 49, 32, 49, 32, 49, 32, 49, 32, 50, 53, 54, 32, 53, 10] : List UInt8) ++ [112, 114, 111, 103, 114, 97, 109, 10, 116, 101, 120, 116, 32] ++ WV 65) := by kernel_rfl
                      have k2 : bs (([106, 111, 98, 32, 49, 32, 49, 32, 49, 32, 49, 32, 50, 53, 54, 32, 53, 10] : List UInt8) ++ [112, 114, 111, 103, 114, 97, 109, 10, 116, 101, 120, 116, 32] ++ WV 65) ++ (⟨#[10]⟩ : ByteArray) = bs btW := by kernel_rfl
                      have k3 : (⟨#[106, 111, 98, 32, 49, 32, 49, 32, 49, 32, 49, 32, 50, 53, 54, 32, 53, 10]⟩ : ByteArray) ++ (⟨#[112, 114, 111, 103, 114, 97, 109, 10, 116, 101, 120, 116, 32, 126, 37, 55, 70, 10]⟩ : ByteArray) = bs btT := by kernel_rfl
                      have k4 : (⟨#[106, 111, 98, 32, 49, 32, 49, 32, 49, 32, 49, 32, 50, 53, 54, 32, 53, 10]⟩ : ByteArray) ++ (⟨#[112, 114, 111, 103, 114, 97, 109, 10, 105, 110, 116, 101, 114, 114, 117, 112, 116, 32, 49, 10, 105, 110, 116, 101, 114, 114, 117, 112, 116, 32, 49, 10, 114, 117, 110, 32, 49, 10, 116, 105, 99, 107, 32, 49, 10, 114, 117, 110, 32, 49, 10]⟩ : ByteArray) = bs btL := by kernel_rfl
                      have hsb : (bs (([106, 111, 98, 32, 49, 32, 49, 32, 49, 32, 49, 32, 50, 53, 54, 32, 53, 10] : List UInt8) ++ [112, 114, 111, 103, 114, 97, 109, 10, 116, 101, 120, 116, 32] ++ WV 65)).size = 96 := by rw [bs_size]; rfl
                      have CV := fun V (o : Only [] wr V) => run_str_any (some ⟨D, 0, none⟩) 65 65 (WV 65) V hwl (src_blk (hB.out.only o (by simp)))
                      have OW := hide (OC.out.trans0 hO5.out)
                      have PM := fun W (o : Only [] wr W) => kpar_bad btM 33 (by decide) btM_is W (HE.out.only (OW.out.trans0 o)) (by have := (OW.out.trans0 o).size; omega)
                      have PW := fun W (o : Only [] wr W) => kpar_bad btW 2 (by decide) btW_is W (HE.out.only (OW.out.trans0 o)) (by have := (OW.out.trans0 o).size; omega)
                      rw [HTM.out] at PM
                      have PL := fun W (o : Only [] wr W) => (show Calls Tryz.prog 29 #[.string (bs btL)] W fun e w' => (∃ a0 a1 a2 a3 a4 a5 pX pn pk tX tn tk EA el ec, e = .returned (.tuple #[.agg #[.int .i64 a0, .int .i64 a1, .int .i64 a2, .int .i64 a3, .int .i64 a4, .int .i64 a5, .slice pX pn pk, .slice tX tn tk, .slice EA el ec], .int .i64 0, .int .i64 0])) ∧ Only [] W w' from by
                        have h := sparse_any btL (by decide) W (HE.out.only (OW.out.trans0 o)) (by have := (OW.out.trans0 o).size; omega)
                        have h1 := btL_is
                        obtain ⟨x, hx⟩ : ∃ x, parF btL = x := ⟨_, rfl⟩
                        rw [hx] at h h1
                        obtain ⟨a, b, cc⟩ := x
                        cases a with
                        | none => simp [outB] at h1
                        | some sc =>
                          simp only [outB, Option.map_some, Prod.mk.injEq, Option.some.injEq] at h1
                          obtain ⟨-, rfl, rfl⟩ := h1
                          refine h.mono ?_
                          rintro e w' ⟨⟨PA, pk, vs, TA, tc, EA, ec, rfl, _⟩, o'⟩
                          exact ⟨⟨_, _, _, _, _, _, _, _, _, _, _, _, _, _, _, rfl⟩, o'⟩)
                      have JT := fun (W : World) (N1 : Nat) (hN1 : W.heap.size = N1) (o : Only [] wr W) => (show Calls Tryz.prog 24 #[.agg #[.int .i64 1, .int .i64 1, .int .i64 1, .int .i64 1, .int .i64 256, .int .i64 5, .slice (some ⟨N1, 0, none⟩) 1 1, .slice (some ⟨N1 + 1, 0, none⟩) 1 1]] ((W.alloc (.cells #[.slice none 0 0] 67)).alloc (.cells #[.string ⟨#[126, 127]⟩] 9)) fun e w' => e = .returned (.tuple #[.string (bs btT), .int .i64 0]) ∧ Only [] ((W.alloc (.cells #[.slice none 0 0] 67)).alloc (.cells #[.string ⟨#[126, 127]⟩] 9)) w' from by
                        subst hN1
                        have oo := (o.alloc (.cells #[.slice none 0 0] 67)).alloc (.cells #[.string ⟨#[126, 127]⟩] 9)
                        have b1 := (Blk.new W 67 #[.slice none 0 0]).alloc (.cells #[.string ⟨#[126, 127]⟩] 9)
                        have b2 := Blk.new (W.alloc (.cells #[.slice none 0 0] 67)) 9 #[.string ⟨#[126, 127]⟩]
                        rw [World.size_alloc] at b2
                        have h := sjob_good (tJ (some ⟨W.heap.size, 0, none⟩) 1 (some ⟨W.heap.size + 1, 0, none⟩) 1) _ (HE.out.only (OW.out.trans0 oo)) ⟨fun k hk => by
                          obtain rfl : k = 0 := by have : k < 1 := hk; omega
                          exact ⟨⟨W.heap.size, 0, none⟩, rfl, b1.cell 0, by show 0 ≤ maxLen; exact Nat.zero_le _, fun i hi => absurd hi (Nat.not_lt_zero _)⟩, fun k hk => by
                          obtain rfl : k = 0 := by have : k < 1 := hk; omega
                          exact ⟨⟨W.heap.size + 1, 0, none⟩, rfl, b2.cell 0⟩, by show 1 ≤ maxLen; unfold maxLen; omega, by show 1 ≤ maxLen; unfold maxLen; omega⟩ (good_tJ _ _ _ _)
                        rw [text_tJ] at h
                        exact h)
                      have KN := hide (fun W (o : Only [] wr W) => sknown_any W (HE.out.only (OW.out.trans0 o)) (by have := (OW.out.trans0 o).size; omega))
                      have BY := hide (BY.out.only hO5.out (by simp))
                      obtain ⟨wS, hwS⟩ : ∃ t, bs (WV 65) = t := ⟨_, rfl⟩
                      obtain ⟨sb, hsbe⟩ : ∃ t, bs (([106, 111, 98, 32, 49, 32, 49, 32, 49, 32, 49, 32, 50, 53, 54, 32, 53, 10] : List UInt8) ++ [112, 114, 111, 103, 114, 97, 109, 10, 116, 101, 120, 116, 32] ++ WV 65) = t := ⟨_, rfl⟩
                      obtain ⟨tW, htW⟩ : ∃ t, bs btW = t := ⟨_, rfl⟩
                      obtain ⟨tT, htT⟩ : ∃ t, bs btT = t := ⟨_, rfl⟩
                      obtain ⟨tL, htL⟩ : ∃ t, bs btL = t := ⟨_, rfl⟩
                      have CV : ∀ V, Only [] wr V → (convert 68 9 (.slice (some ⟨D, 0, none⟩) 65 65)).run Tryz.prog V = .ok (.string wS) V := fun V o => by have := CV V o; rw [← hwS]; exact this
                      rw [hwS] at k1 hsw
                      rw [hsbe] at k1 k2 hsb
                      rw [htW] at k2 PW
                      rw [htT] at k3 JT
                      rw [htL] at k4 PL
                      have bq : (tT.toList == tT.toList) = true := by simp
                      have zz1 : ¬ 9223372036854775807 < ((⟨#[106, 111, 98, 32, 49, 32, 49, 32, 49, 32, 49, 32, 50, 53, 54, 32, 53, 10]⟩ : ByteArray) ++ (⟨#[112, 114, 111, 103, 114, 97, 109, 10, 116, 101, 120, 116, 32]⟩ : ByteArray)).size + wS.size := by rw [hsw, show ((⟨#[106, 111, 98, 32, 49, 32, 49, 32, 49, 32, 49, 32, 50, 53, 54, 32, 53, 10]⟩ : ByteArray) ++ (⟨#[112, 114, 111, 103, 114, 97, 109, 10, 116, 101, 120, 116, 32]⟩ : ByteArray)).size = 31 from by kernel_rfl]; omega
                      have zz2 : ¬ 9223372036854775807 < sb.size + (⟨#[10]⟩ : ByteArray).size := by rw [hsb, show (⟨#[10]⟩ : ByteArray).size = 1 from rfl]; omega
                      have CV := hide CV
                      have PM := hide PM
                      have PW := hide PW
                      have PL := hide PL
                      have JT := hide JT
                      have OX := hide (Only.refl [] wr)
                      clear hwl hwS hsbe htW htT htL hB
                      go_wp2_with (first
                        | (go_at_call 29; (with_reducible refine (PM.out _ OX.out).mono ?_); rintro e v1 ⟨rfl, o⟩; have OX := hide ((OX.out.trans0 o).alloc (.cells #[.int .i64 0, .int .i64 0, .int .i64 0, .int .i64 0, .int .i64 0, .int .i64 0, .slice none 0 0, .slice none 0 0, .slice none 0 0] 54)); have cv := CV.out _ OX.out; clear o PM)
                        | (go_at_call 29; (with_reducible refine (PW.out _ OX.out).mono ?_); rintro e v2 ⟨rfl, o⟩; have OX := hide ((OX.out.trans0 o).alloc (.cells #[.int .i64 0, .int .i64 0, .int .i64 0, .int .i64 0, .int .i64 0, .int .i64 0, .slice none 0 0, .slice none 0 0, .slice none 0 0] 54)); clear o PW cv)
                        | (go_at_call 24; (with_reducible refine (JT.out _ _ (World.size_alloc _ _) OX.out).mono ?_); rintro e v3 ⟨rfl, o⟩; have OX := hide (((OX.out.alloc (.cells #[.slice none 0 0] 67)).alloc (.cells #[.string ⟨#[126, 127]⟩] 9)).trans0 o); clear o JT)
                        | (go_at_call 29; (with_reducible refine (PL.out _ OX.out).mono ?_); rintro e v4 ⟨⟨b0, b1, b2, b3, b4, b5, qX, qn, qk, uX, un, uk, FA, fl, fc, rfl⟩, o⟩; have OX := hide ((OX.out.trans0 o).alloc (.cells #[.int .i64 b0, .int .i64 b1, .int .i64 b2, .int .i64 b3, .int .i64 b4, .int .i64 b5, .slice qX qn qk, .slice uX un uk, .slice FA fl fc] 54)); have y8 := (BY.out.only OX.out (by simp)).cell 8; clear o PL)
                        | (go_at_call 12; (with_reducible refine (num_any _ _).mono ?_); rintro e v5 ⟨rfl, hw⟩; obtain rfl := hw.symm; clear hw)
                        | (go_at_call 7; (with_reducible refine (KN.out _ OX.out).mono ?_); rintro e v6 ⟨rfl, o⟩; have OX := hide (OX.out.trans0 o); clear o KN))
                      go_ret
                      exact ⟨rfl, OW.out.trans0 OX.out⟩
end Go.Proofs.YteblhklclcjonaaGreatDoor
