/- Code: the walk of CodeBounds. Condition: Env. -/
import Derived.Test.YtmaljajdmgkakaaGreatDoorCu1
import Derived.Test.YtmaljajdmgkakaaGreatDoorCdF
import Derived.Test.YtmaljajdmgkakaaGreatDoorCdQ
import Derived.ArgAppend
namespace Go.Proofs.YtmaljajdmgkakaaGreatDoor
open Go.RowKit
set_option linter.unusedVariables false
set_option linter.all false
set_option maxRecDepth 20000
attribute [local go_sem ↓] app_hide

def fS : Nat → Ins := fOf (LQ 256)
theorem fill_next {w : World} {X q : Nat} (hq : q < 256) (h : Blk w X 25 (GI (LQ q)).toArray) : Blk (((((w.setCell ⟨X, q * 5, none⟩ (.int .i64 1)).setCell ⟨X, q * 5 + 1, none⟩ (.int .i64 7)).setCell ⟨X, q * 5 + 2, none⟩ (.int .i64 0)).setCell ⟨X, q * 5 + 3, none⟩ (.int .i64 0)).setCell ⟨X, q * 5 + 4, none⟩ (.int .i64 (-9223372036854775808))) X 25 (GI (LQ (q + 1))).toArray := by
  have e := GI_set (List.replicate q iS) (List.replicate (255 - q) noI) noI iS
  rw [List.length_replicate, ← LQ_split hq, ← LQ_next hq, Nat.add_zero] at e
  rw [← e]
  exact ((((h.set_ (q * 5) _).set_ (q * 5 + 1) _).set_ (q * 5 + 2) _).set_ (q * 5 + 3) _).set_ (q * 5 + 4) _
theorem fill_cell {w : World} {X q r : Nat} (hq : q < 256) (hr : r < 5) (h : Blk w X 25 (GI (LQ q)).toArray) : w.cell? ⟨X, q * 5 + r, none⟩ = some (.int .i64 0) := by
  rw [h.cell, List.getElem?_toArray, GI_get _ q r (by rw [LQ_len (by omega)]; exact hq) hr, LQ_get hq]
  rcases (by omega : r = 0 ∨ r = 1 ∨ r = 2 ∨ r = 3 ∨ r = 4) with h | h | h | h | h
  all_goals (subst h; rfl)
theorem full_is {w : World} {X B : Nat} (hB : B ≤ X) (h : Blk w X 25 (GI (LQ 256)).toArray) : Is w B (some ⟨X, 0, none⟩) 256 (LQ 256) := by
  have hl := LQ_len (Nat.le_refl 256)
  refine ⟨by rw [GI_len], .inr ⟨X, 256, _, by rw [hl], hB, h, by rw [hl]; omega, by unfold maxLen; omega, ?_, ?_⟩⟩
  · rw [List.size_toArray, GI_len, hl]
  · rw [hl]
    show (GI (LQ 256)).take (256 * 5) = _
    exact List.take_of_length_le (by rw [GI_len, hl]; omega)
theorem app_full {W : World} {B X : Nat} (hI : Is W B (some ⟨X, 0, none⟩) 256 (LQ 256)) : ∃ (A' : Option Addr) (c' : Nat) (w2 : World), (AppH #[22, 22] 22 #[.slice (some ⟨X, 0, none⟩) 256 256, .slice (some ⟨W.heap.size, 0, none⟩) 1 1]).run Tryz.prog (W.alloc (.cells (insV noI) 25)) = .ok (.slice A' 257 c') w2 ∧ (∃ B', Is w2 B' A' c' (LQ 256 ++ [noI])) ∧ Only [] W w2 := by
  obtain ⟨i0, hi, hz0, hz1, hz2⟩ := info_parts info24b
  have hl := LQ_len (Nat.le_refl 256)
  have hI2 := hI.only0 ((Only.refl [] W).alloc (.cells (insV noI) 25))
  obtain ⟨g, hg, h1, _⟩ := own_cell hI2 (by rw [hl]; omega)
  obtain rfl : X = g := by simpa using hg
  obtain ⟨v', w', hrun, h2, h3⟩ := run_append_arg_grows (P := Tryz.prog) (W.alloc (.cells (insV noI) 25)) 22 22 25 i0 (.agg z5) 5 40 Tryz.underlying22 hi hz0 hz1 hz2 rfl (by omega) ⟨X, 0, none⟩ 256 256 (GI (LQ 256)) (by rw [GI_len, hl])
    (fun j u hj => by
      have hlt := (List.getElem?_eq_some_iff.1 hj).1
      rw [GI_len, hl] at hlt
      rw [add_mk, Nat.zero_add, h1 j (by rw [hl]; exact hlt)]
      exact hj)
    ⟨W.heap.size, 0, none⟩ 1 1 (insV noI).toList rfl (fun j u hj => by
      have := (Blk.new W 25 (insV noI)).cell j
      rw [add_mk, Nat.zero_add, this, ← Array.getElem?_toList]
      exact hj) (by omega) (by unfold maxLen; omega) (by omega)
  obtain ⟨A', c', rfl⟩ : ∃ A' c', v' = .slice A' 257 c' := by
    rcases h2.2 with ⟨hv, hn⟩ | ⟨g, cap, cur, hv, _⟩
    · exact absurd hn (by decide)
    · exact ⟨_, _, hv⟩
  have e : GI (LQ 256) ++ (insV noI).toList = GI (LQ 256 ++ [noI]) := by rw [GI_cat]; simp [GI]
  rw [e] at h2
  have hlen : (LQ 256 ++ [noI]).length = 257 := by rw [List.length_append, hl]; rfl
  refine ⟨A', c', w', hrun, ⟨(W.alloc (.cells (insV noI) 25)).heap.size, ?_⟩, ((Only.refl [] W).alloc (.cells (insV noI) 25)).grown h3 (fun k hk => by cases hk)⟩
  unfold Is
  rw [hlen]
  exact h2
theorem chk257 (f : Nat → Ins) : chkV 257 f = .tuple #[.int .i64 0, .int .i64 2] := if_pos (by omega)
theorem mayc : mayI ⟨7, 0, 0, 0, 255⟩ 256 = true ∧ mayI ⟨7, 0, 0, 0, 256⟩ 256 = false ∧ mayI ⟨5, 0, 0, 0, 256⟩ 256 = true := by decide +kernel
theorem job0 (PB X : Nat) : jobE ⟨16, 8, 32, 100, 65536, 31, some ⟨PB, 0, none⟩, 1, 1, fun _ => ⟨some ⟨X, 0, none⟩, 256, 256, fS⟩, none, 0, 0, fun _ => .empty⟩ = 0 := by
  refine jobE_ok ?_ ?_ ?_
  · intro q hq
    rcases (by omega : q = 0 ∨ q = 1 ∨ q = 2 ∨ q = 3 ∨ q = 4 ∨ q = 5 ∨ q = 6 ∨ q = 7 ∨ q = 8) with h | h | h | h | h | h | h | h | h
    all_goals (subst h; simp only [lo9, hi9, v9]; decide)
  · have h : fb (badG (fun _ => ⟨some ⟨X, 0, none⟩, 256, 256, fS⟩)) 1 = -1 := fb_none (fun k hk => show badP 256 fS = false from Good.bad goodS)
    intro hc
    exact absurd (h ▸ hc : (0 : Int) ≤ -1) (by decide)
  · have h : fb (longG (fun _ => ByteArray.empty)) 0 = -1 := rfl
    intro hc
    exact absurd (h ▸ hc : (0 : Int) ≤ -1) (by decide)
/-- Eighty cells. -/
def arr (C : Nat → Value) : Array Value := (Array.range 80).map C
theorem arr_get (C : Nat → Value) {j : Nat} (h : j < 80) : (arr C)[j]? = some (C j) := by
  unfold arr
  rw [Array.getElem?_map, Array.getElem?_range, if_pos h]
  rfl
def up (C : Nat → Value) (j : Nat) (v : Value) : Nat → Value := fun k => if k = j then v else C k
theorem arr_set (C : Nat → Value) {j : Nat} (h : j < 80) (v : Value) : (arr C).setIfInBounds j v = arr (up C j v) := by
  apply Array.ext_getElem?
  intro k
  rw [Array.getElem?_setIfInBounds]
  by_cases hk : k < 80
  · rw [arr_get _ hk, arr_get _ hk]
    by_cases hjk : j = k
    · subst hjk
      rw [if_pos rfl, if_pos (by simp [arr]; exact h)]
      simp [up]
    · rw [if_neg hjk]
      simp [up, Ne.symm hjk]
  · have e : ∀ D, (arr D)[k]? = none := fun D => by rw [Array.getElem?_eq_none]; simp [arr]; omega
    rw [e, e, if_neg (by omega)]
theorem Blk.upd {w : World} {Q : Nat} {C : Nat → Value} (h : Blk w Q 43 (arr C)) {j : Nat} (hj : j < 80) (v : Value) : Blk (w.setCell ⟨Q, j, none⟩ v) Q 43 (arr (up C j v)) := by
  rw [← arr_set C hj v]
  exact h.set_ j v
def up8 (C : Nat → Value) (b : Nat) (J : Nat → Value) : Nat → Value := up (up (up (up (up (up (up (up C b (J 0)) (b + 1) (J 1)) (b + 2) (J 2)) (b + 3) (J 3)) (b + 4) (J 4)) (b + 5) (J 5)) (b + 6) (J 6)) (b + 7) (J 7)
theorem up8_in (C : Nat → Value) (b : Nat) (J : Nat → Value) : ∀ r, r < 8 → up8 C b J (b + r) = J r := by
  intro r hr
  rcases (by omega : r = 0 ∨ r = 1 ∨ r = 2 ∨ r = 3 ∨ r = 4 ∨ r = 5 ∨ r = 6 ∨ r = 7) with h | h | h | h | h | h | h | h
  all_goals (subst h; simp [up8, up])
theorem up8_out (C : Nat → Value) (b : Nat) (J : Nat → Value) {k : Nat} (h : k < b ∨ b + 8 ≤ k) : up8 C b J k = C k := by
  simp only [up8, up]
  rw [if_neg (by omega), if_neg (by omega), if_neg (by omega), if_neg (by omega), if_neg (by omega), if_neg (by omega), if_neg (by omega), if_neg (by omega)]
def jcV (PB : Nat) : Nat → Value
  | 0 => .int .i64 16
  | 1 => .int .i64 8
  | 2 => .int .i64 32
  | 3 => .int .i64 100
  | 4 => .int .i64 65536
  | 5 => .int .i64 31
  | 6 => .slice (some ⟨PB, 0, none⟩) 1 1
  | _ => .slice none 0 0
def C0 : Nat → Value := fun j => if j % 8 = 6 ∨ j % 8 = 7 then .slice none 0 0 else .int .i64 0
def Z80 : Array Value := arr C0
theorem info43 : (Tryz.prog.info? 43).map (fun i => (i.zero, i.size)) = some (some (.agg Z80), 80) := by kernel_rfl
theorem zero43 (W : World) : (zeroValue 43).run Tryz.prog W = .ok (.agg Z80) W := (zero_of_info info43).1 W
theorem zero_cell (q : Nat) : q * 5 + 0 = q * 5 := rfl
theorem job2_0 (PB X SB TB : Nat) (tq : ByteArray) : jobE ⟨17, 8, 32, 100, 65536, 31, some ⟨PB, 0, none⟩, 1, 1, fun _ => ⟨some ⟨X, 0, none⟩, 256, 256, fS⟩, none, 0, 0, fun _ => .empty⟩ = 2 := jobE_row (q := 0) (by omega) (.inr (by simp only [v9, lo9, hi9]; decide))
theorem job2_1 (PB X SB TB : Nat) (tq : ByteArray) : jobE ⟨16, 9, 32, 100, 65536, 31, some ⟨PB, 0, none⟩, 1, 1, fun _ => ⟨some ⟨X, 0, none⟩, 256, 256, fS⟩, none, 0, 0, fun _ => .empty⟩ = 2 := jobE_row (q := 1) (by omega) (.inr (by simp only [v9, lo9, hi9]; decide))
theorem job2_2 (PB X SB TB : Nat) (tq : ByteArray) : jobE ⟨16, 8, 33, 100, 65536, 31, some ⟨PB, 0, none⟩, 1, 1, fun _ => ⟨some ⟨X, 0, none⟩, 256, 256, fS⟩, none, 0, 0, fun _ => .empty⟩ = 2 := jobE_row (q := 2) (by omega) (.inr (by simp only [v9, lo9, hi9]; decide))
theorem job2_3 (PB X SB TB : Nat) (tq : ByteArray) : jobE ⟨16, 8, 32, 101, 65536, 31, some ⟨PB, 0, none⟩, 1, 1, fun _ => ⟨some ⟨X, 0, none⟩, 256, 256, fS⟩, none, 0, 0, fun _ => .empty⟩ = 2 := jobE_row (q := 3) (by omega) (.inr (by simp only [v9, lo9, hi9]; decide))
theorem job2_4 (PB X SB TB : Nat) (tq : ByteArray) : jobE ⟨16, 8, 32, 100, 65544, 31, some ⟨PB, 0, none⟩, 1, 1, fun _ => ⟨some ⟨X, 0, none⟩, 256, 256, fS⟩, none, 0, 0, fun _ => .empty⟩ = 2 := jobE_row (q := 4) (by omega) (.inr (by simp only [v9, lo9, hi9]; decide))
theorem job2_5 (PB X SB TB : Nat) (tq : ByteArray) : jobE ⟨16, 8, 32, 100, 65536, 32, some ⟨PB, 0, none⟩, 1, 1, fun _ => ⟨some ⟨X, 0, none⟩, 256, 256, fS⟩, none, 0, 0, fun _ => .empty⟩ = 2 := jobE_row (q := 5) (by omega) (.inr (by simp only [v9, lo9, hi9]; decide))
theorem job2_6 (PB X SB TB : Nat) (tq : ByteArray) : jobE ⟨16, 8, 32, 100, 65536, 31, none, 0, 0, fun _ => ⟨some ⟨X, 0, none⟩, 256, 256, fS⟩, none, 0, 0, fun _ => .empty⟩ = 2 := jobE_row (q := 6) (by omega) (.inl (by simp only [v9, lo9, hi9]; decide))
theorem job2_7 (PB X SB TB : Nat) (tq : ByteArray) : jobE ⟨16, 8, 32, 100, 260, 31, some ⟨PB, 0, none⟩, 1, 1, fun _ => ⟨some ⟨X, 0, none⟩, 256, 256, fS⟩, none, 0, 0, fun _ => .empty⟩ = 2 := jobE_row (q := 8) (by omega) (.inr (by simp only [v9, lo9, hi9]; decide))
theorem job2_8 (PB X SB TB : Nat) (tq : ByteArray) : jobE ⟨16, 8, 32, 100, 65536, 31, some ⟨PB, 0, none⟩, 1, 1, fun _ => ⟨some ⟨X, 0, none⟩, 256, 256, fS⟩, some ⟨SB, 0, none⟩, 33, 33, fun _ => ⟨#[]⟩⟩ = 2 := jobE_row (q := 7) (by omega) (.inr (by simp only [v9, lo9, hi9]; decide))
theorem job2_9 (PB X SB TB : Nat) (tq : ByteArray) (h : tq.size = 65) : jobE ⟨16, 8, 32, 100, 65536, 31, some ⟨PB, 0, none⟩, 1, 1, fun _ => ⟨some ⟨X, 0, none⟩, 256, 256, fS⟩, some ⟨TB, 0, none⟩, 1, 1, fun _ => tq⟩ = 2 := jobE_text (by
  have e : fb (longG (fun _ => tq)) 1 = (0 : Nat) := fb_at (by omega) (show decide (64 < tq.size) = true by rw [h]; rfl) (fun j hj => absurd hj (Nat.not_lt_zero _))
  show 0 ≤ fb (longG (fun _ => tq)) 1
  rw [e]; decide)
theorem made_strs (W : World) : ∃ (Z : Array Value), (Instr.makeSlice 38 (.int .i64 33) (.int .i64 33)).run Tryz.prog W = .ok (.slice (some ⟨W.heap.size, 0, none⟩) 33 33) (W.alloc (.cells Z 9)) ∧ ∀ k, k < 33 → Z[k]? = some (.string ⟨#[]⟩) := by
  obtain ⟨i0, hi, hz0, hz1, hz2⟩ := info_parts info9
  have h := run_make (P := Tryz.prog) W 38 9 i0 (.string ⟨#[]⟩) Tryz.underlying38 hi hz0 .i64 .i64 33 33 (by omega) (by omega) (by rw [hz2]; omega) (by omega)
  rw [hz1] at h
  refine ⟨_, h, fun k hk => ?_⟩
  rw [show Value.cells (.string ⟨#[]⟩) = #[.string ⟨#[]⟩] from rfl, ← Array.getElem?_toList, toList_madeCells_one, List.getElem?_replicate]
  exact if_pos (by simpa using hk)
theorem insX_only {w W : World} {X n : Nat} {f : Nat → Ins} {S : List Nat} (h : InsAt w (some ⟨X, 0, none⟩) n f) (o : Only S w W) (hX : X ∉ S) : InsAt W (some ⟨X, 0, none⟩) n f := fun k hk => by
  obtain ⟨a, ha, e0, e1, e2, e3, e4⟩ := h k hk
  obtain rfl : (⟨X, 0, none⟩ : Addr) = a := Option.some.inj ha
  refine ⟨_, rfl, ?_, ?_, ?_, ?_, ?_⟩
  all_goals simp only [add_mk] at e0 e1 e2 e3 e4 ⊢
  · exact o.keep e0 hX
  · exact o.keep e1 hX
  · exact o.keep e2 hX
  · exact o.keep e3 hX
  · exact o.keep e4 hX
set_option maxHeartbeats 32000000 in
theorem bounds_walk (w : World) (he : Env w) (hw4 : 4 ≤ w.heap.size) : Calls Tryz.prog 3 #[] w fun e w' => e = .returned (.bool true) ∧ Only [] w w' := by
  have KN := hide (fun U (o : Only [] w U) => known_any U (he.only o) (by have := o.size; omega))
  have HE := hide (fun U (o : Only [] w U) => he.only o)
  have mi := made_ins
  obtain ⟨G0, hG0⟩ : ∃ x, (GI (LQ 0)).toArray = x := ⟨_, rfl⟩
  simp only [hG0] at mi
  have B0 := Blk.new w 25 G0
  have O0 := (Only.refl [] w).alloc (.cells G0 25)
  obtain ⟨X, hX⟩ : ∃ X, w.heap.size = X := ⟨_, rfl⟩
  obtain ⟨V, hV⟩ : ∃ V, w.alloc (.cells G0 25) = V := ⟨_, rfl⟩
  rw [hV, hX, ← hG0] at B0
  rw [hV] at O0
  have B0 := hide B0
  have O0 := hide O0
  have HX := hide hX
  have HV := hide hV
  clear hX hV hG0
  go_enter Tryz.func3, Tryz.ntmps3
  go_wp2_with fail
  rw [HV.out]
  simp only [HX.out]
  go_loopw [2] (fun v2 wr => ∃ q : Nat, q ≤ 256 ∧ v2 = .int .i64 q ∧ Hid (Blk wr X 25 (GI (LQ q)).toArray) ∧ Hid (Only [] w wr)) (fun v2 _ => 256 - (intOf v2).toNat)
  case atStart => exact ⟨0, by omega, rfl, B0, O0⟩
  case round =>
    clear B0 O0
    obtain ⟨q, hq, rfl, hB, hO⟩ := hrel
    by_cases hq6 : q < 256
    · have c0 := fill_cell (r := 0) hq6 (by omega) hB.out
      have c1 := fill_cell (r := 1) hq6 (by omega) hB.out
      have c2 := fill_cell (r := 2) hq6 (by omega) hB.out
      have c3 := fill_cell (r := 3) hq6 (by omega) hB.out
      have c4 := fill_cell (r := 4) hq6 (by omega) hB.out
      rw [zero_cell] at c0
      have f0 := hB.out.frozen (q * 5)
      have f1 := hB.out.frozen (q * 5 + 1)
      have f2 := hB.out.frozen (q * 5 + 2)
      have f3 := hB.out.frozen (q * 5 + 3)
      have f4 := hB.out.frozen (q * 5 + 4)
      have j0 : (0 : Int) ≤ (q : Int) := by omega
      have j1 : (q : Int) < 256 := by omega
      have HN := hide (fill_next hq6 hB.out)
      have HON := hide ((((((hO.out.mono (T := [X]) (by simp)).setCell (p := ⟨X, q * 5, none⟩) (.inl (by simp)) (.int .i64 1)).setCell (p := ⟨X, q * 5 + 1, none⟩) (.inl (by simp)) (.int .i64 7)).setCell (p := ⟨X, q * 5 + 2, none⟩) (.inl (by simp)) (.int .i64 0)).setCell (p := ⟨X, q * 5 + 3, none⟩) (.inl (by simp)) (.int .i64 0)).setCell (p := ⟨X, q * 5 + 4, none⟩) (.inl (by simp)) (.int .i64 (-9223372036854775808)))
      go_wp2_with fail
      go_roundw
      case rel => exact ⟨q + 1, by omega, by go_num, HN, hide (HON.out.mono (fun x hx => .inr (by have := HX.out; simp at hx; omega)))⟩
      case measure => simp [intOf]; omega
    · obtain rfl : q = 256 := by omega
      clear hq hq6
      have IS := hide (full_is (B := w.heap.size) (by rw [HX.out]; exact Nat.le_refl _) hB.out)
      have hg : Good 256 fS := goodS
      have hl256 := LQ_len (Nat.le_refl 256)
      have HOW := hide hO.out
      have HIA := hide (show InsAt wr (some ⟨X, 0, none⟩) 256 fS from by have := is_at IS.out; rw [hl256] at this; exact this)
      have LI := list_good (some ⟨X, 0, none⟩) 256 256 fS wr (HE.out _ hO.out) HIA.out hg
      have hll := txtL_len (pOf 256 fS) hg.all
      rw [← listB_txt, pOf_len] at hll
      have rov := readR_over
      rw [show fOf (LQ 256) = fS from rfl] at rov
      have es : bs (listB fS 256) ++ (⟨#[101, 110, 100, 10]⟩ : ByteArray) = bs (listB fS 256 ++ endB) := bs_app _ endB
      have z1 : ¬ 9223372036854775807 < (bs (listB fS 256)).size + (⟨#[101, 110, 100, 10]⟩ : ByteArray).size := by rw [bs_size, show (⟨#[101, 110, 100, 10]⟩ : ByteArray).size = 4 from rfl]; omega
      have R1 := fun U (o : Only [] wr U) => read_walk (listB fS 256 ++ endB) (by rw [List.length_append, show endB.length = 4 from rfl]; omega) U (HE.out U (HOW.out.trans0 o)) (by have := o.size; have := HOW.out.size; omega)
      have R2 := fun U (o : Only [] wr U) => read_walk (List.replicate 16385 0) (by rw [List.length_replicate]; omega) U (HE.out U (HOW.out.trans0 o)) (by have := o.size; have := HOW.out.size; omega)
      have R3 := fun U (o : Only [] wr U) => read_walk [] (by simp) U (HE.out U (HOW.out.trans0 o)) (by have := o.size; have := HOW.out.size; omega)
      rw [rov] at R1
      rw [readR_long] at R2
      rw [readR_empty, show bs [] = ⟨#[]⟩ from rfl] at R3
      have mb := made_bytes 16385 (by omega)
      have mc := made_bytes 65 (by omega)
      have cb := fun U : World => run_str_any (some ⟨U.heap.size, 0, none⟩) 16385 16385 (List.replicate 16385 0) (U.alloc (.cells (U8s (List.replicate 16385 0)).toArray 5)) (by rw [List.length_replicate]) (src_new U _)
      have cc := fun U : World => run_str_any (some ⟨U.heap.size, 0, none⟩) 65 65 (List.replicate 65 0) (U.alloc (.cells (U8s (List.replicate 65 0)).toArray 5)) (by rw [List.length_replicate]) (src_new U _)
      obtain ⟨ZA, hZA⟩ : ∃ x, (U8s (List.replicate 16385 0)).toArray = x := ⟨_, rfl⟩
      obtain ⟨ZB, hZB⟩ : ∃ x, (U8s (List.replicate 65 0)).toArray = x := ⟨_, rfl⟩
      obtain ⟨tz, htz⟩ : ∃ x, bs (List.replicate 16385 0) = x := ⟨_, rfl⟩
      obtain ⟨tq, htq⟩ : ∃ x, bs (List.replicate 65 0) = x := ⟨_, rfl⟩
      have hq65 : tq.size = 65 := by rw [← htq, bs_size, List.length_replicate]
      rw [show (⟨(List.replicate 16385 (0 : UInt8)).toArray⟩ : ByteArray) = tz from htz] at cb
      rw [show (⟨(List.replicate 65 (0 : UInt8)).toArray⟩ : ByteArray) = tq from htq] at cc
      rw [htz] at R2
      simp only [hZA] at mb cb
      simp only [hZB] at mc cc
      simp only [Int.cast_ofNat_Int] at mb mc
      obtain ⟨tb, htb⟩ : ∃ x, bs (listB fS 256) = x := ⟨_, rfl⟩
      obtain ⟨tc, htc⟩ : ∃ x, bs (listB fS 256 ++ endB) = x := ⟨_, rfl⟩
      rw [htb] at LI es z1
      rw [htc] at es R1
      have T1 := fun U (o : Only [] wr U) => take_any (some ⟨U.heap.size, 0, none⟩) 1 1 [0] (U.alloc (.cells #[.int .u8 0] 5)) rfl (by omega) (src_new U [0])
      have T2 := fun U (o : Only [] wr U) => take_any none 0 0 [] U rfl (by omega) (fun h => absurd h (by simp))
      rw [takeF_zero] at T1
      rw [takeF_nil] at T2
      have L1 := fun U (o : Only [] wr U) => line_any ⟨7, 0, 0, 0, 255⟩ U (HE.out U (HOW.out.trans0 o)) (by decide) (by decide)
      have L2 := fun U (o : Only [] wr U) => line_any ⟨7, 0, 0, 0, 256⟩ U (HE.out U (HOW.out.trans0 o)) (by decide) (by decide)
      have L3 := fun U (o : Only [] wr U) => line_any ⟨5, 0, 0, 0, 256⟩ U (HE.out U (HOW.out.trans0 o)) (by decide) (by decide)
      simp only [mayc.1, mayc.2.1, mayc.2.2, if_true, Bool.false_eq_true, if_false, insV, show bs [] = ⟨#[]⟩ from rfl] at L1 L2 L3
      obtain ⟨s1, hs1⟩ : ∃ x, bs (lineB ⟨7, 0, 0, 0, 255⟩) = x := ⟨_, rfl⟩
      obtain ⟨s3, hs3⟩ : ∃ x, bs (lineB ⟨5, 0, 0, 0, 256⟩) = x := ⟨_, rfl⟩
      rw [hs1] at L1
      rw [hs3] at L3
      have HX2 := HX.out
      have LI := hide LI
      have R1 := hide R1
      have R2 := hide R2
      have R3 := hide R3
      have T1 := hide T1
      have T2 := hide T2
      have L1 := hide L1
      have L2 := hide L2
      have L3 := hide L3
      have HQ65 := hide hq65
      have HL256 := hide hl256
      have OC := hide (Only.refl [] wr)
      clear hll hg rov hZA hZB htz htq htb htc hs1 hs3 hq65 hl256 hB hO HX2
      go_wp2_with (first
        | (go_at_call 6; (with_reducible refine LI.out.mono ?_); rintro e w3 ⟨rfl, o'⟩; have OC := hide (OC.out.trans0 o'); obtain ⟨A', c', w4, hrun, ⟨B', i4⟩, o4⟩ := app_full (IS.out.only0 o'); unfold insV noI at hrun; simp only at hrun; have CK := hide (check_any A' 257 c' (fOf (LQ 256 ++ [noI])) w4 (by have := is_at i4; rw [List.length_append, HL256.out] at this; exact this) (by unfold maxLen; omega)); have OC := hide (OC.out.trans0 o4); clear o' i4 o4)
        | (go_at_call 7; (with_reducible refine CK.out.mono ?_); rw [chk257]; rintro e w5 ⟨rfl, o'⟩; have OC := hide (OC.out.trans0 o'); clear o')
        | (go_at_call 8; (with_reducible refine (R1.out _ OC.out).mono ?_); rintro e w6 ⟨⟨A6, c6, p6, n6, er6, rfl, hq6, i6⟩, o'⟩; simp only [Prod.mk.injEq] at hq6; obtain ⟨rfl, rfl, rfl⟩ := hq6; have OC := hide ((OC.out.trans0 o').alloc (.cells ZA 5)); clear o' i6)
        | (go_at_call 8; (with_reducible refine (R2.out _ OC.out).mono ?_); rintro e w7 ⟨⟨A7, c7, p7, n7, er7, rfl, hq7, i7⟩, o'⟩; simp only [Prod.mk.injEq] at hq7; obtain ⟨rfl, rfl, rfl⟩ := hq7; have OC := hide (OC.out.trans0 o'); clear o' i7)
        | (go_at_call 8; (with_reducible refine (R3.out _ OC.out).mono ?_); rintro e w8 ⟨⟨A8, c8, p8, n8, er8, rfl, hq8, i8⟩, o'⟩; simp only [Prod.mk.injEq] at hq8; obtain ⟨rfl, rfl, rfl⟩ := hq8; have OC := hide (OC.out.trans0 o'); clear o' i8)
        | (go_at_call 9; (with_reducible refine (T1.out _ OC.out).mono ?_); intro e w9 htk; obtain ⟨o', B9, c9, rfl, i9⟩ := htk; have OC := hide ((OC.out.alloc (.cells #[.int .u8 0] 5)).trans0 o'); clear o' i9)
        | (go_at_call 9; (with_reducible refine (T2.out _ OC.out).mono ?_); intro e wa htk; obtain ⟨o', rfl⟩ := htk; have OC := hide (OC.out.trans0 o'); clear o')
        | (go_at_call 10; (with_reducible refine (L1.out _ OC.out).mono ?_); rintro e wb ⟨rfl, o'⟩; have OC := hide (OC.out.trans0 o'); clear o')
        | (go_at_call 10; (with_reducible refine (L2.out _ OC.out).mono ?_); rintro e wc ⟨rfl, o'⟩; have OC := hide (OC.out.trans0 o'); clear o')
        | (go_at_call 10; (with_reducible refine (L3.out _ OC.out).mono ?_); rintro e wd ⟨rfl, o'⟩; have OC := hide (OC.out.trans0 o'); clear o'))
      obtain ⟨PB, hPB⟩ : ∃ x, wd.heap.size = x := ⟨_, rfl⟩
      have bP := (Blk.new wd 22 #[.slice (some ⟨X, 0, none⟩) 256 256]).alloc (.cells #[.int .i64 16, .int .i64 8, .int .i64 32, .int .i64 100, .int .i64 65536, .int .i64 31, .slice (some ⟨PB, 0, none⟩) 1 1, .slice none 0 0] 40)
      have bJ := Blk.new (wd.alloc (.cells #[.slice (some ⟨X, 0, none⟩) 256 256] 22)) 40 #[.int .i64 16, .int .i64 8, .int .i64 32, .int .i64 100, .int .i64 65536, .int .i64 31, .slice (some ⟨PB, 0, none⟩) 1 1, .slice none 0 0]
      have oU := (OC.out.alloc (.cells #[.slice (some ⟨X, 0, none⟩) 256 256] 22)).alloc (.cells #[.int .i64 16, .int .i64 8, .int .i64 32, .int .i64 100, .int .i64 65536, .int .i64 31, .slice (some ⟨PB, 0, none⟩) 1 1, .slice none 0 0] 40)
      rw [World.size_alloc, hPB] at bJ
      rw [hPB] at bP
      simp only [hPB]
      obtain ⟨U, hU⟩ : ∃ U, (wd.alloc (.cells #[.slice (some ⟨X, 0, none⟩) 256 256] 22)).alloc (.cells #[.int .i64 16, .int .i64 8, .int .i64 32, .int .i64 100, .int .i64 65536, .int .i64 31, .slice (some ⟨PB, 0, none⟩) 1 1, .slice none 0 0] 40) = U := ⟨_, rfl⟩
      rw [hU] at bP bJ oU ⊢
      have PGS := hide (fun W (o : Only [] U W) => show PgsAt W (some ⟨PB, 0, none⟩) 1 (fun _ => ⟨some ⟨X, 0, none⟩, 256, 256, fS⟩) from fun k hk => by
        obtain rfl : k = 0 := by omega
        exact ⟨_, rfl, by rw [add_mk]; exact (bP.only o (by simp)).cell 0, (by show 256 ≤ maxLen; unfold maxLen; omega), HIA.out.only0 (oU.trans0 o)⟩)
      have BJ := hide bJ
      have OC := hide oU
      have J0 := checkjob_any ⟨16, 8, 32, 100, 65536, 31, some ⟨PB, 0, none⟩, 1, 1, fun _ => ⟨some ⟨X, 0, none⟩, 256, 256, fS⟩, none, 0, 0, fun _ => .empty⟩ U ⟨PGS.out U (Only.refl _ _), fun k (hk : k < 0) => absurd hk (Nat.not_lt_zero _), (by show 1 ≤ maxLen; unfold maxLen; omega), (by show 0 ≤ maxLen; exact Nat.zero_le _)⟩
      rw [job0] at J0
      unfold jobV at J0
      simp only [Int.cast_ofNat_Int] at J0
      clear hU hPB bP bJ oU IS LI R1 R2 R3 T1 T2 L1 L2 L3
      have hZ := zero43
      refine J0.mono ?_
      rintro e u1 ⟨rfl, o1⟩
      have OC1 := hide (OC.out.trans0 o1)
      have BJ1 := hide (BJ.out.only o1 (by simp))
      have PG1 := hide (fun W (o : Only [] u1 W) => PGS.out W (o1.trans0 o))
      clear o1 OC BJ PGS J0
      go_wp2_with (go_at_call 11; (with_reducible refine (num_any _ _).mono ?_); rintro e v8 ⟨rfl, rfl⟩)
      obtain ⟨Q, hQ⟩ : ∃ x, v8.heap.size = x := ⟨_, rfl⟩
      have bQ := Blk.new v8 43 (arr C0)
      have bJ2 := BJ1.out.alloc (.cells (arr C0) 43)
      have oV := OC1.out.alloc (.cells (arr C0) 43)
      have hQJ : PB + 1 < Q := by rw [← hQ]; exact BJ1.out.lt
      unfold Z80
      rw [hQ] at bQ
      simp only [hQ]
      obtain ⟨V2, hV2⟩ : ∃ x, v8.alloc (.cells (arr C0) 43) = x := ⟨_, rfl⟩
      have o8 := (Only.refl [] v8).alloc (.cells (arr C0) 43)
      rw [hV2] at bQ bJ2 oV o8 ⊢
      have BQ := hide bQ
      have BJ2 := hide bJ2
      have OC2 := hide oV
      have PG2 := hide (fun W (o : Only [] V2 W) => PG1.out W (o8.trans0 o))
      have HQW := hide (show wr.heap.size ≤ Q from by rw [← hQ]; exact OC1.out.size)
      have NQ := hide hQJ
      clear hQ hV2 bQ bJ2 oV o8 hQJ BJ1 OC1 PG1
      go_loopw [29] (fun v29 wr2 => ∃ (q : Nat) (C : Nat → Value), q ≤ 10 ∧ v29 = .int .i64 q ∧ Hid (Blk wr2 Q 43 (arr C)) ∧ Hid (∀ k, k < q → ∀ r, r < 8 → C (k * 8 + r) = jcV PB r) ∧ Hid (Only [Q] V2 wr2)) (fun v29 _ => 10 - (intOf v29).toNat)
      case atStart => exact ⟨0, C0, by omega, rfl, BQ, hide (fun k hk => by omega), hide (Only.refl _ _)⟩
      case round =>
        clear BQ
        obtain ⟨q, C, hq, rfl, hB, hC, hO⟩ := hrel
        have bj := BJ2.out.only hO.out (by have := NQ.out; simp; omega)
        by_cases hq10 : q < 10
        · have x0 := bj.cell 0
          have x1 := bj.cell 1
          have x2 := bj.cell 2
          have x3 := bj.cell 3
          have x4 := bj.cell 4
          have x5 := bj.cell 5
          have x6 := bj.cell 6
          have x7 := bj.cell 7
          have y0 := (hB.out.cell (q * 8)).trans (arr_get C (by omega))
          have f0 := hB.out.frozen (q * 8)
          have y1 := (hB.out.cell (q * 8 + 1)).trans (arr_get C (by omega))
          have f1 := hB.out.frozen (q * 8 + 1)
          have y2 := (hB.out.cell (q * 8 + 2)).trans (arr_get C (by omega))
          have f2 := hB.out.frozen (q * 8 + 2)
          have y3 := (hB.out.cell (q * 8 + 3)).trans (arr_get C (by omega))
          have f3 := hB.out.frozen (q * 8 + 3)
          have y4 := (hB.out.cell (q * 8 + 4)).trans (arr_get C (by omega))
          have f4 := hB.out.frozen (q * 8 + 4)
          have y5 := (hB.out.cell (q * 8 + 5)).trans (arr_get C (by omega))
          have f5 := hB.out.frozen (q * 8 + 5)
          have y6 := (hB.out.cell (q * 8 + 6)).trans (arr_get C (by omega))
          have f6 := hB.out.frozen (q * 8 + 6)
          have y7 := (hB.out.cell (q * 8 + 7)).trans (arr_get C (by omega))
          have f7 := hB.out.frozen (q * 8 + 7)
          have j0 : (0 : Int) ≤ (q : Int) := by omega
          have j1 : (q : Int) < 10 := by omega
          have HB := hide (show Blk (((((((((wr).setCell ⟨Q, q * 8, none⟩ (.int .i64 16)).setCell ⟨Q, q * 8 + 1, none⟩ (.int .i64 8)).setCell ⟨Q, q * 8 + 2, none⟩ (.int .i64 32)).setCell ⟨Q, q * 8 + 3, none⟩ (.int .i64 100)).setCell ⟨Q, q * 8 + 4, none⟩ (.int .i64 65536)).setCell ⟨Q, q * 8 + 5, none⟩ (.int .i64 31)).setCell ⟨Q, q * 8 + 6, none⟩ (.slice (some ⟨PB, 0, none⟩) 1 1)).setCell ⟨Q, q * 8 + 7, none⟩ (.slice none 0 0)) Q 43 (arr (up8 C (q * 8) (jcV PB))) from ((((((((hB.out).upd (j := q * 8) (by omega) (.int .i64 16)).upd (j := q * 8 + 1) (by omega) (.int .i64 8)).upd (j := q * 8 + 2) (by omega) (.int .i64 32)).upd (j := q * 8 + 3) (by omega) (.int .i64 100)).upd (j := q * 8 + 4) (by omega) (.int .i64 65536)).upd (j := q * 8 + 5) (by omega) (.int .i64 31)).upd (j := q * 8 + 6) (by omega) (.slice (some ⟨PB, 0, none⟩) 1 1)).upd (j := q * 8 + 7) (by omega) (.slice none 0 0))
          have HO := hide (show Only [Q] V2 (((((((((wr).setCell ⟨Q, q * 8, none⟩ (.int .i64 16)).setCell ⟨Q, q * 8 + 1, none⟩ (.int .i64 8)).setCell ⟨Q, q * 8 + 2, none⟩ (.int .i64 32)).setCell ⟨Q, q * 8 + 3, none⟩ (.int .i64 100)).setCell ⟨Q, q * 8 + 4, none⟩ (.int .i64 65536)).setCell ⟨Q, q * 8 + 5, none⟩ (.int .i64 31)).setCell ⟨Q, q * 8 + 6, none⟩ (.slice (some ⟨PB, 0, none⟩) 1 1)).setCell ⟨Q, q * 8 + 7, none⟩ (.slice none 0 0)) from (((((((((hO.out.mono (T := [Q]) (fun x hx => .inl (by simpa using hx)))).setCell (p := ⟨Q, q * 8, none⟩) (.inl (by simp)) (.int .i64 16)).setCell (p := ⟨Q, q * 8 + 1, none⟩) (.inl (by simp)) (.int .i64 8)).setCell (p := ⟨Q, q * 8 + 2, none⟩) (.inl (by simp)) (.int .i64 32)).setCell (p := ⟨Q, q * 8 + 3, none⟩) (.inl (by simp)) (.int .i64 100)).setCell (p := ⟨Q, q * 8 + 4, none⟩) (.inl (by simp)) (.int .i64 65536)).setCell (p := ⟨Q, q * 8 + 5, none⟩) (.inl (by simp)) (.int .i64 31)).setCell (p := ⟨Q, q * 8 + 6, none⟩) (.inl (by simp)) (.slice (some ⟨PB, 0, none⟩) 1 1)).setCell (p := ⟨Q, q * 8 + 7, none⟩) (.inl (by simp)) (.slice none 0 0))
          have HC := hide (show ∀ k, k < q + 1 → ∀ r, r < 8 → up8 C (q * 8) (jcV PB) (k * 8 + r) = jcV PB r from fun k hk r hr => by
            rcases (by omega : k = q ∨ k < q) with h | h
            · subst h; exact up8_in C _ _ r hr
            · rw [up8_out C (q * 8) (jcV PB) (k := k * 8 + r) (by omega)]; exact hC.out k h r hr)
          clear bj
          go_wp2_with fail
          go_roundw
          case rel => exact ⟨q + 1, _, by omega, by go_num, HB, HC, HO⟩
          case measure => simp [intOf]; omega
        · obtain rfl : q = 10 := by omega
          clear hq hq10
          obtain ⟨ZS, hms, hzs⟩ := made_strs (((((((((wr).setCell ⟨Q, 0, none⟩ (.int .i64 17)).setCell ⟨Q, 9, none⟩ (.int .i64 9)).setCell ⟨Q, 18, none⟩ (.int .i64 33)).setCell ⟨Q, 27, none⟩ (.int .i64 101)).setCell ⟨Q, 36, none⟩ (.int .i64 65544)).setCell ⟨Q, 45, none⟩ (.int .i64 32)).setCell ⟨Q, 54, none⟩ (.slice none 0 0)).setCell ⟨Q, 60, none⟩ (.int .i64 260))
          obtain ⟨SB, hSB⟩ : ∃ x, (((((((((wr).setCell ⟨Q, 0, none⟩ (.int .i64 17)).setCell ⟨Q, 9, none⟩ (.int .i64 9)).setCell ⟨Q, 18, none⟩ (.int .i64 33)).setCell ⟨Q, 27, none⟩ (.int .i64 101)).setCell ⟨Q, 36, none⟩ (.int .i64 65544)).setCell ⟨Q, 45, none⟩ (.int .i64 32)).setCell ⟨Q, 54, none⟩ (.slice none 0 0)).setCell ⟨Q, 60, none⟩ (.int .i64 260)).heap.size = x := ⟨_, rfl⟩
          rw [hSB] at hms
          have b6 := (((((((((hB.out.upd (j := 0) (by omega) (.int .i64 17)).upd (j := 9) (by omega) (.int .i64 9)).upd (j := 18) (by omega) (.int .i64 33)).upd (j := 27) (by omega) (.int .i64 101)).upd (j := 36) (by omega) (.int .i64 65544)).upd (j := 45) (by omega) (.int .i64 32)).upd (j := 54) (by omega) (.slice none 0 0)).upd (j := 60) (by omega) (.int .i64 260))).alloc (.cells ZS 9)
          have o6 := (((((((((hO.out.setCell (p := ⟨Q, 0, none⟩) (.inl (by simp)) (.int .i64 17)).setCell (p := ⟨Q, 9, none⟩) (.inl (by simp)) (.int .i64 9)).setCell (p := ⟨Q, 18, none⟩) (.inl (by simp)) (.int .i64 33)).setCell (p := ⟨Q, 27, none⟩) (.inl (by simp)) (.int .i64 101)).setCell (p := ⟨Q, 36, none⟩) (.inl (by simp)) (.int .i64 65544)).setCell (p := ⟨Q, 45, none⟩) (.inl (by simp)) (.int .i64 32)).setCell (p := ⟨Q, 54, none⟩) (.inl (by simp)) (.slice none 0 0)).setCell (p := ⟨Q, 60, none⟩) (.inl (by simp)) (.int .i64 260))).alloc (.cells ZS 9)
          have s6 := Blk.new (((((((((wr).setCell ⟨Q, 0, none⟩ (.int .i64 17)).setCell ⟨Q, 9, none⟩ (.int .i64 9)).setCell ⟨Q, 18, none⟩ (.int .i64 33)).setCell ⟨Q, 27, none⟩ (.int .i64 101)).setCell ⟨Q, 36, none⟩ (.int .i64 65544)).setCell ⟨Q, 45, none⟩ (.int .i64 32)).setCell ⟨Q, 54, none⟩ (.slice none 0 0)).setCell ⟨Q, 60, none⟩ (.int .i64 260)) 9 ZS
          rw [hSB] at s6
          obtain ⟨W6, hW6⟩ : ∃ x, (((((((((wr).setCell ⟨Q, 0, none⟩ (.int .i64 17)).setCell ⟨Q, 9, none⟩ (.int .i64 9)).setCell ⟨Q, 18, none⟩ (.int .i64 33)).setCell ⟨Q, 27, none⟩ (.int .i64 101)).setCell ⟨Q, 36, none⟩ (.int .i64 65544)).setCell ⟨Q, 45, none⟩ (.int .i64 32)).setCell ⟨Q, 54, none⟩ (.slice none 0 0)).setCell ⟨Q, 60, none⟩ (.int .i64 260)).alloc (.cells ZS 9) = x := ⟨_, rfl⟩
          rw [hW6] at hms b6 o6 s6
          have hm65 := mc (W6.setCell ⟨Q, 71, none⟩ (.slice (some ⟨SB, 0, none⟩) 33 33))
          have hc65 := cc (W6.setCell ⟨Q, 71, none⟩ (.slice (some ⟨SB, 0, none⟩) 33 33))
          have b8 := (b6.upd (j := 71) (by omega) (.slice (some ⟨SB, 0, none⟩) 33 33)).alloc (.cells ZB 5)
          have o8 := (o6.setCell (p := ⟨Q, 71, none⟩) (.inl (by simp)) (.slice (some ⟨SB, 0, none⟩) 33 33)).alloc (.cells ZB 5)
          have hSQ : SB ≠ Q := by
            have := (hB.out).lt
            have hsz : (((((((((wr).setCell ⟨Q, 0, none⟩ (.int .i64 17)).setCell ⟨Q, 9, none⟩ (.int .i64 9)).setCell ⟨Q, 18, none⟩ (.int .i64 33)).setCell ⟨Q, 27, none⟩ (.int .i64 101)).setCell ⟨Q, 36, none⟩ (.int .i64 65544)).setCell ⟨Q, 45, none⟩ (.int .i64 32)).setCell ⟨Q, 54, none⟩ (.slice none 0 0)).setCell ⟨Q, 60, none⟩ (.int .i64 260)).heap.size = wr.heap.size := by simp [World.setCell]
            omega
          have s8 := (s6.far (p := ⟨Q, 71, none⟩) (by simpa using hSQ) (.slice (some ⟨SB, 0, none⟩) 33 33)).alloc (.cells ZB 5)
          obtain ⟨W8, hW8⟩ : ∃ x, (W6.setCell ⟨Q, 71, none⟩ (.slice (some ⟨SB, 0, none⟩) 33 33)).alloc (.cells ZB 5) = x := ⟨_, rfl⟩
          rw [hW8] at hm65 hc65 b8 o8 s8
          rw [show (W6.setCell ⟨Q, 71, none⟩ (.slice (some ⟨SB, 0, none⟩) 33 33)).heap.size = W6.heap.size by simp [World.setCell]] at hm65 hc65
          obtain ⟨TB, hTB⟩ : ∃ x, W8.heap.size = x := ⟨_, rfl⟩
          have b9 := b8.alloc (.cells #[.string tq] 9)
          have o9 := o8.alloc (.cells #[.string tq] 9)
          have s9 := s8.alloc (.cells #[.string tq] 9)
          have t9 := Blk.new W8 9 #[.string tq]
          have hTQ : TB ≠ Q := by have := b8.lt; omega
          rw [hTB] at t9
          have x71 := (b6.cell 71).trans (arr_get _ (by omega))
          have f71 := b6.frozen 71
          have x79 := (b9.cell 79).trans (arr_get _ (by omega))
          have f79 := b9.frozen 79
          have BF := hide (b9.upd (j := 79) (by omega) (.slice (some ⟨TB, 0, none⟩) 1 1))
          have OF := hide (o9.setCell (p := ⟨Q, 79, none⟩) (.inl (by simp)) (.slice (some ⟨TB, 0, none⟩) 1 1))
          have SF := hide (s9.far (p := ⟨Q, 79, none⟩) (by simpa using hSQ) (.slice (some ⟨TB, 0, none⟩) 1 1))
          have TF := hide (t9.far (p := ⟨Q, 79, none⟩) (by simpa using hTQ) (.slice (some ⟨TB, 0, none⟩) 1 1))
          have x0 := (hB.out.cell 0).trans (arr_get C (by omega))
          have f0 := hB.out.frozen 0
          have x9 := (hB.out.cell 9).trans (arr_get C (by omega))
          have f9 := hB.out.frozen 9
          have x18 := (hB.out.cell 18).trans (arr_get C (by omega))
          have f18 := hB.out.frozen 18
          have x27 := (hB.out.cell 27).trans (arr_get C (by omega))
          have f27 := hB.out.frozen 27
          have x36 := (hB.out.cell 36).trans (arr_get C (by omega))
          have f36 := hB.out.frozen 36
          have x45 := (hB.out.cell 45).trans (arr_get C (by omega))
          have f45 := hB.out.frozen 45
          have x54 := (hB.out.cell 54).trans (arr_get C (by omega))
          have f54 := hB.out.frozen 54
          have x60 := (hB.out.cell 60).trans (arr_get C (by omega))
          have f60 := hB.out.frozen 60
          have HZS := hide hzs
          have HTB := hide hTB
          clear mb mc cb cc hSB hW6 hW8 b6 o6 s6 b8 o8 s8 b9 o9 s9 t9 hSQ hTQ hTB bj hzs
          go_wp2_with fail
          rw [HTB.out]
          obtain ⟨WF, hWF⟩ : ∃ x, (W8.alloc (.cells #[.string tq] 9)).setCell ⟨Q, 79, none⟩ (.slice (some ⟨TB, 0, none⟩) 1 1) = x := ⟨_, rfl⟩
          rw [hWF] at BF OF SF TF ⊢
          have hXQ : X < Q := by
            obtain ⟨a, ha, e0, _⟩ := HIA.out 0 (by omega)
            obtain rfl : (⟨X, 0, none⟩ : Addr) = a := Option.some.inj ha
            rw [add_mk] at e0
            have h1 := World.block_lt_of_cell? _ _ e0
            have h2 := HQW.out
            exact Nat.lt_of_lt_of_le h1 h2
          have PGF := hide (fun W (o : Only [] WF W) => show PgsAt W (some ⟨PB, 0, none⟩) 1 (fun _ => ⟨some ⟨X, 0, none⟩, 256, 256, fS⟩) from fun k hk => by
            obtain ⟨a, ha, e0, e1, e2⟩ := PG2.out V2 (Only.refl _ _) k hk
            obtain rfl : (⟨PB, 0, none⟩ : Addr) = a := Option.some.inj ha
            rw [add_mk] at e0
            exact ⟨_, rfl, by rw [add_mk]; exact o.keep0 (OF.out.keep e0 (by have := NQ.out; simp; omega)), e1, (insX_only e2 OF.out (by simp; omega)).only0 o⟩)
          have OWF := hide (OC2.out.trans OF.out (fun x hx => .inr (by have := HQW.out; simp at hx; omega)))
          clear hWF PG2 BJ2 HIA hXQ
          go_loopw [30] (fun v30 wr => ∃ q : Nat, q ≤ 10 ∧ v30 = .int .i64 q ∧ Hid (Only [] WF wr)) (fun v30 _ => 10 - (intOf v30).toNat)
          case atStart => exact ⟨0, by omega, rfl, hide (Only.refl _ _)⟩
          case round =>
            obtain ⟨q, hq, rfl, hO2⟩ := hrel
            by_cases hq10 : q < 10
            · rcases (by omega : q = 0 ∨ q = 1 ∨ q = 2 ∨ q = 3 ∨ q = 4 ∨ q = 5 ∨ q = 6 ∨ q = 7 ∨ q = 8 ∨ q = 9) with h | h | h | h | h | h | h | h | h | h
              · subst h
                clear hq hq10
                simp only [Int.cast_ofNat_Int, Int.ofNat_zero]
                have x0 : wr.cell? ⟨Q, 0, none⟩ = some (.int .i64 17) := ((BF.out.only hO2.out (by simp)).cell 0).trans ((arr_get _ (by omega)).trans (congrArg some (by simp [up])))
                have h1 : C 1 = jcV PB 1 := hC.out 0 (by omega) 1 (by omega)
                have x1 : wr.cell? ⟨Q, 1, none⟩ = some (.int .i64 8) := ((BF.out.only hO2.out (by simp)).cell 1).trans ((arr_get _ (by omega)).trans (congrArg some (by simp [up, h1, jcV])))
                have h2 : C 2 = jcV PB 2 := hC.out 0 (by omega) 2 (by omega)
                have x2 : wr.cell? ⟨Q, 2, none⟩ = some (.int .i64 32) := ((BF.out.only hO2.out (by simp)).cell 2).trans ((arr_get _ (by omega)).trans (congrArg some (by simp [up, h2, jcV])))
                have h3 : C 3 = jcV PB 3 := hC.out 0 (by omega) 3 (by omega)
                have x3 : wr.cell? ⟨Q, 3, none⟩ = some (.int .i64 100) := ((BF.out.only hO2.out (by simp)).cell 3).trans ((arr_get _ (by omega)).trans (congrArg some (by simp [up, h3, jcV])))
                have h4 : C 4 = jcV PB 4 := hC.out 0 (by omega) 4 (by omega)
                have x4 : wr.cell? ⟨Q, 4, none⟩ = some (.int .i64 65536) := ((BF.out.only hO2.out (by simp)).cell 4).trans ((arr_get _ (by omega)).trans (congrArg some (by simp [up, h4, jcV])))
                have h5 : C 5 = jcV PB 5 := hC.out 0 (by omega) 5 (by omega)
                have x5 : wr.cell? ⟨Q, 5, none⟩ = some (.int .i64 31) := ((BF.out.only hO2.out (by simp)).cell 5).trans ((arr_get _ (by omega)).trans (congrArg some (by simp [up, h5, jcV])))
                have h6 : C 6 = jcV PB 6 := hC.out 0 (by omega) 6 (by omega)
                have x6 : wr.cell? ⟨Q, 6, none⟩ = some (.slice (some ⟨PB, 0, none⟩) 1 1) := ((BF.out.only hO2.out (by simp)).cell 6).trans ((arr_get _ (by omega)).trans (congrArg some (by simp [up, h6, jcV])))
                have h7 : C 7 = jcV PB 7 := hC.out 0 (by omega) 7 (by omega)
                have x7 : wr.cell? ⟨Q, 7, none⟩ = some (.slice none 0 0) := ((BF.out.only hO2.out (by simp)).cell 7).trans ((arr_get _ (by omega)).trans (congrArg some (by simp [up, h7, jcV])))
                have CJ := checkjob_any ⟨17, 8, 32, 100, 65536, 31, some ⟨PB, 0, none⟩, 1, 1, fun _ => ⟨some ⟨X, 0, none⟩, 256, 256, fS⟩, none, 0, 0, fun _ => .empty⟩ wr ⟨PGF.out wr hO2.out, fun k (hk : k < 0) => absurd hk (Nat.not_lt_zero _), (by show 1 ≤ maxLen; unfold maxLen; omega), (by show 0 ≤ maxLen; unfold maxLen; omega)⟩
                rw [job2_0 PB X SB TB tq] at CJ
                unfold jobV at CJ
                simp only [Int.cast_ofNat_Int] at CJ
                have CJ := hide CJ
                clear h1 h2 h3 h4 h5 h6 h7
                go_wp2_with (first
                  | (go_at_call 12; (with_reducible refine CJ.out.mono ?_); rintro e u1 ⟨rfl, o'⟩; have ON := hide (hO2.out.trans0 o'); clear o')
                  | (go_at_call 11; (with_reducible refine (num_any _ _).mono ?_); rintro e u2 ⟨rfl, rfl⟩))
                go_roundw
                case rel => exact ⟨1, by omega, (by first | rfl | go_num), ON⟩
                case measure => simp [intOf]
              · subst h
                clear hq hq10
                simp only [Int.cast_ofNat_Int, Int.ofNat_zero]
                have h0 : C 8 = jcV PB 0 := hC.out 1 (by omega) 0 (by omega)
                have x0 : wr.cell? ⟨Q, 8, none⟩ = some (.int .i64 16) := ((BF.out.only hO2.out (by simp)).cell 8).trans ((arr_get _ (by omega)).trans (congrArg some (by simp [up, h0, jcV])))
                have x1 : wr.cell? ⟨Q, 9, none⟩ = some (.int .i64 9) := ((BF.out.only hO2.out (by simp)).cell 9).trans ((arr_get _ (by omega)).trans (congrArg some (by simp [up])))
                have h2 : C 10 = jcV PB 2 := hC.out 1 (by omega) 2 (by omega)
                have x2 : wr.cell? ⟨Q, 10, none⟩ = some (.int .i64 32) := ((BF.out.only hO2.out (by simp)).cell 10).trans ((arr_get _ (by omega)).trans (congrArg some (by simp [up, h2, jcV])))
                have h3 : C 11 = jcV PB 3 := hC.out 1 (by omega) 3 (by omega)
                have x3 : wr.cell? ⟨Q, 11, none⟩ = some (.int .i64 100) := ((BF.out.only hO2.out (by simp)).cell 11).trans ((arr_get _ (by omega)).trans (congrArg some (by simp [up, h3, jcV])))
                have h4 : C 12 = jcV PB 4 := hC.out 1 (by omega) 4 (by omega)
                have x4 : wr.cell? ⟨Q, 12, none⟩ = some (.int .i64 65536) := ((BF.out.only hO2.out (by simp)).cell 12).trans ((arr_get _ (by omega)).trans (congrArg some (by simp [up, h4, jcV])))
                have h5 : C 13 = jcV PB 5 := hC.out 1 (by omega) 5 (by omega)
                have x5 : wr.cell? ⟨Q, 13, none⟩ = some (.int .i64 31) := ((BF.out.only hO2.out (by simp)).cell 13).trans ((arr_get _ (by omega)).trans (congrArg some (by simp [up, h5, jcV])))
                have h6 : C 14 = jcV PB 6 := hC.out 1 (by omega) 6 (by omega)
                have x6 : wr.cell? ⟨Q, 14, none⟩ = some (.slice (some ⟨PB, 0, none⟩) 1 1) := ((BF.out.only hO2.out (by simp)).cell 14).trans ((arr_get _ (by omega)).trans (congrArg some (by simp [up, h6, jcV])))
                have h7 : C 15 = jcV PB 7 := hC.out 1 (by omega) 7 (by omega)
                have x7 : wr.cell? ⟨Q, 15, none⟩ = some (.slice none 0 0) := ((BF.out.only hO2.out (by simp)).cell 15).trans ((arr_get _ (by omega)).trans (congrArg some (by simp [up, h7, jcV])))
                have CJ := checkjob_any ⟨16, 9, 32, 100, 65536, 31, some ⟨PB, 0, none⟩, 1, 1, fun _ => ⟨some ⟨X, 0, none⟩, 256, 256, fS⟩, none, 0, 0, fun _ => .empty⟩ wr ⟨PGF.out wr hO2.out, fun k (hk : k < 0) => absurd hk (Nat.not_lt_zero _), (by show 1 ≤ maxLen; unfold maxLen; omega), (by show 0 ≤ maxLen; unfold maxLen; omega)⟩
                rw [job2_1 PB X SB TB tq] at CJ
                unfold jobV at CJ
                simp only [Int.cast_ofNat_Int] at CJ
                have CJ := hide CJ
                clear h0 h2 h3 h4 h5 h6 h7
                go_wp2_with (first
                  | (go_at_call 12; (with_reducible refine CJ.out.mono ?_); rintro e u1 ⟨rfl, o'⟩; have ON := hide (hO2.out.trans0 o'); clear o')
                  | (go_at_call 11; (with_reducible refine (num_any _ _).mono ?_); rintro e u2 ⟨rfl, rfl⟩))
                go_roundw
                case rel => exact ⟨2, by omega, (by first | rfl | go_num), ON⟩
                case measure => simp [intOf]
              · subst h
                clear hq hq10
                simp only [Int.cast_ofNat_Int, Int.ofNat_zero]
                have h0 : C 16 = jcV PB 0 := hC.out 2 (by omega) 0 (by omega)
                have x0 : wr.cell? ⟨Q, 16, none⟩ = some (.int .i64 16) := ((BF.out.only hO2.out (by simp)).cell 16).trans ((arr_get _ (by omega)).trans (congrArg some (by simp [up, h0, jcV])))
                have h1 : C 17 = jcV PB 1 := hC.out 2 (by omega) 1 (by omega)
                have x1 : wr.cell? ⟨Q, 17, none⟩ = some (.int .i64 8) := ((BF.out.only hO2.out (by simp)).cell 17).trans ((arr_get _ (by omega)).trans (congrArg some (by simp [up, h1, jcV])))
                have x2 : wr.cell? ⟨Q, 18, none⟩ = some (.int .i64 33) := ((BF.out.only hO2.out (by simp)).cell 18).trans ((arr_get _ (by omega)).trans (congrArg some (by simp [up])))
                have h3 : C 19 = jcV PB 3 := hC.out 2 (by omega) 3 (by omega)
                have x3 : wr.cell? ⟨Q, 19, none⟩ = some (.int .i64 100) := ((BF.out.only hO2.out (by simp)).cell 19).trans ((arr_get _ (by omega)).trans (congrArg some (by simp [up, h3, jcV])))
                have h4 : C 20 = jcV PB 4 := hC.out 2 (by omega) 4 (by omega)
                have x4 : wr.cell? ⟨Q, 20, none⟩ = some (.int .i64 65536) := ((BF.out.only hO2.out (by simp)).cell 20).trans ((arr_get _ (by omega)).trans (congrArg some (by simp [up, h4, jcV])))
                have h5 : C 21 = jcV PB 5 := hC.out 2 (by omega) 5 (by omega)
                have x5 : wr.cell? ⟨Q, 21, none⟩ = some (.int .i64 31) := ((BF.out.only hO2.out (by simp)).cell 21).trans ((arr_get _ (by omega)).trans (congrArg some (by simp [up, h5, jcV])))
                have h6 : C 22 = jcV PB 6 := hC.out 2 (by omega) 6 (by omega)
                have x6 : wr.cell? ⟨Q, 22, none⟩ = some (.slice (some ⟨PB, 0, none⟩) 1 1) := ((BF.out.only hO2.out (by simp)).cell 22).trans ((arr_get _ (by omega)).trans (congrArg some (by simp [up, h6, jcV])))
                have h7 : C 23 = jcV PB 7 := hC.out 2 (by omega) 7 (by omega)
                have x7 : wr.cell? ⟨Q, 23, none⟩ = some (.slice none 0 0) := ((BF.out.only hO2.out (by simp)).cell 23).trans ((arr_get _ (by omega)).trans (congrArg some (by simp [up, h7, jcV])))
                have CJ := checkjob_any ⟨16, 8, 33, 100, 65536, 31, some ⟨PB, 0, none⟩, 1, 1, fun _ => ⟨some ⟨X, 0, none⟩, 256, 256, fS⟩, none, 0, 0, fun _ => .empty⟩ wr ⟨PGF.out wr hO2.out, fun k (hk : k < 0) => absurd hk (Nat.not_lt_zero _), (by show 1 ≤ maxLen; unfold maxLen; omega), (by show 0 ≤ maxLen; unfold maxLen; omega)⟩
                rw [job2_2 PB X SB TB tq] at CJ
                unfold jobV at CJ
                simp only [Int.cast_ofNat_Int] at CJ
                have CJ := hide CJ
                clear h0 h1 h3 h4 h5 h6 h7
                go_wp2_with (first
                  | (go_at_call 12; (with_reducible refine CJ.out.mono ?_); rintro e u1 ⟨rfl, o'⟩; have ON := hide (hO2.out.trans0 o'); clear o')
                  | (go_at_call 11; (with_reducible refine (num_any _ _).mono ?_); rintro e u2 ⟨rfl, rfl⟩))
                go_roundw
                case rel => exact ⟨3, by omega, (by first | rfl | go_num), ON⟩
                case measure => simp [intOf]
              · subst h
                clear hq hq10
                simp only [Int.cast_ofNat_Int, Int.ofNat_zero]
                have h0 : C 24 = jcV PB 0 := hC.out 3 (by omega) 0 (by omega)
                have x0 : wr.cell? ⟨Q, 24, none⟩ = some (.int .i64 16) := ((BF.out.only hO2.out (by simp)).cell 24).trans ((arr_get _ (by omega)).trans (congrArg some (by simp [up, h0, jcV])))
                have h1 : C 25 = jcV PB 1 := hC.out 3 (by omega) 1 (by omega)
                have x1 : wr.cell? ⟨Q, 25, none⟩ = some (.int .i64 8) := ((BF.out.only hO2.out (by simp)).cell 25).trans ((arr_get _ (by omega)).trans (congrArg some (by simp [up, h1, jcV])))
                have h2 : C 26 = jcV PB 2 := hC.out 3 (by omega) 2 (by omega)
                have x2 : wr.cell? ⟨Q, 26, none⟩ = some (.int .i64 32) := ((BF.out.only hO2.out (by simp)).cell 26).trans ((arr_get _ (by omega)).trans (congrArg some (by simp [up, h2, jcV])))
                have x3 : wr.cell? ⟨Q, 27, none⟩ = some (.int .i64 101) := ((BF.out.only hO2.out (by simp)).cell 27).trans ((arr_get _ (by omega)).trans (congrArg some (by simp [up])))
                have h4 : C 28 = jcV PB 4 := hC.out 3 (by omega) 4 (by omega)
                have x4 : wr.cell? ⟨Q, 28, none⟩ = some (.int .i64 65536) := ((BF.out.only hO2.out (by simp)).cell 28).trans ((arr_get _ (by omega)).trans (congrArg some (by simp [up, h4, jcV])))
                have h5 : C 29 = jcV PB 5 := hC.out 3 (by omega) 5 (by omega)
                have x5 : wr.cell? ⟨Q, 29, none⟩ = some (.int .i64 31) := ((BF.out.only hO2.out (by simp)).cell 29).trans ((arr_get _ (by omega)).trans (congrArg some (by simp [up, h5, jcV])))
                have h6 : C 30 = jcV PB 6 := hC.out 3 (by omega) 6 (by omega)
                have x6 : wr.cell? ⟨Q, 30, none⟩ = some (.slice (some ⟨PB, 0, none⟩) 1 1) := ((BF.out.only hO2.out (by simp)).cell 30).trans ((arr_get _ (by omega)).trans (congrArg some (by simp [up, h6, jcV])))
                have h7 : C 31 = jcV PB 7 := hC.out 3 (by omega) 7 (by omega)
                have x7 : wr.cell? ⟨Q, 31, none⟩ = some (.slice none 0 0) := ((BF.out.only hO2.out (by simp)).cell 31).trans ((arr_get _ (by omega)).trans (congrArg some (by simp [up, h7, jcV])))
                have CJ := checkjob_any ⟨16, 8, 32, 101, 65536, 31, some ⟨PB, 0, none⟩, 1, 1, fun _ => ⟨some ⟨X, 0, none⟩, 256, 256, fS⟩, none, 0, 0, fun _ => .empty⟩ wr ⟨PGF.out wr hO2.out, fun k (hk : k < 0) => absurd hk (Nat.not_lt_zero _), (by show 1 ≤ maxLen; unfold maxLen; omega), (by show 0 ≤ maxLen; unfold maxLen; omega)⟩
                rw [job2_3 PB X SB TB tq] at CJ
                unfold jobV at CJ
                simp only [Int.cast_ofNat_Int] at CJ
                have CJ := hide CJ
                clear h0 h1 h2 h4 h5 h6 h7
                go_wp2_with (first
                  | (go_at_call 12; (with_reducible refine CJ.out.mono ?_); rintro e u1 ⟨rfl, o'⟩; have ON := hide (hO2.out.trans0 o'); clear o')
                  | (go_at_call 11; (with_reducible refine (num_any _ _).mono ?_); rintro e u2 ⟨rfl, rfl⟩))
                go_roundw
                case rel => exact ⟨4, by omega, (by first | rfl | go_num), ON⟩
                case measure => simp [intOf]
              · subst h
                clear hq hq10
                simp only [Int.cast_ofNat_Int, Int.ofNat_zero]
                have h0 : C 32 = jcV PB 0 := hC.out 4 (by omega) 0 (by omega)
                have x0 : wr.cell? ⟨Q, 32, none⟩ = some (.int .i64 16) := ((BF.out.only hO2.out (by simp)).cell 32).trans ((arr_get _ (by omega)).trans (congrArg some (by simp [up, h0, jcV])))
                have h1 : C 33 = jcV PB 1 := hC.out 4 (by omega) 1 (by omega)
                have x1 : wr.cell? ⟨Q, 33, none⟩ = some (.int .i64 8) := ((BF.out.only hO2.out (by simp)).cell 33).trans ((arr_get _ (by omega)).trans (congrArg some (by simp [up, h1, jcV])))
                have h2 : C 34 = jcV PB 2 := hC.out 4 (by omega) 2 (by omega)
                have x2 : wr.cell? ⟨Q, 34, none⟩ = some (.int .i64 32) := ((BF.out.only hO2.out (by simp)).cell 34).trans ((arr_get _ (by omega)).trans (congrArg some (by simp [up, h2, jcV])))
                have h3 : C 35 = jcV PB 3 := hC.out 4 (by omega) 3 (by omega)
                have x3 : wr.cell? ⟨Q, 35, none⟩ = some (.int .i64 100) := ((BF.out.only hO2.out (by simp)).cell 35).trans ((arr_get _ (by omega)).trans (congrArg some (by simp [up, h3, jcV])))
                have x4 : wr.cell? ⟨Q, 36, none⟩ = some (.int .i64 65544) := ((BF.out.only hO2.out (by simp)).cell 36).trans ((arr_get _ (by omega)).trans (congrArg some (by simp [up])))
                have h5 : C 37 = jcV PB 5 := hC.out 4 (by omega) 5 (by omega)
                have x5 : wr.cell? ⟨Q, 37, none⟩ = some (.int .i64 31) := ((BF.out.only hO2.out (by simp)).cell 37).trans ((arr_get _ (by omega)).trans (congrArg some (by simp [up, h5, jcV])))
                have h6 : C 38 = jcV PB 6 := hC.out 4 (by omega) 6 (by omega)
                have x6 : wr.cell? ⟨Q, 38, none⟩ = some (.slice (some ⟨PB, 0, none⟩) 1 1) := ((BF.out.only hO2.out (by simp)).cell 38).trans ((arr_get _ (by omega)).trans (congrArg some (by simp [up, h6, jcV])))
                have h7 : C 39 = jcV PB 7 := hC.out 4 (by omega) 7 (by omega)
                have x7 : wr.cell? ⟨Q, 39, none⟩ = some (.slice none 0 0) := ((BF.out.only hO2.out (by simp)).cell 39).trans ((arr_get _ (by omega)).trans (congrArg some (by simp [up, h7, jcV])))
                have CJ := checkjob_any ⟨16, 8, 32, 100, 65544, 31, some ⟨PB, 0, none⟩, 1, 1, fun _ => ⟨some ⟨X, 0, none⟩, 256, 256, fS⟩, none, 0, 0, fun _ => .empty⟩ wr ⟨PGF.out wr hO2.out, fun k (hk : k < 0) => absurd hk (Nat.not_lt_zero _), (by show 1 ≤ maxLen; unfold maxLen; omega), (by show 0 ≤ maxLen; unfold maxLen; omega)⟩
                rw [job2_4 PB X SB TB tq] at CJ
                unfold jobV at CJ
                simp only [Int.cast_ofNat_Int] at CJ
                have CJ := hide CJ
                clear h0 h1 h2 h3 h5 h6 h7
                go_wp2_with (first
                  | (go_at_call 12; (with_reducible refine CJ.out.mono ?_); rintro e u1 ⟨rfl, o'⟩; have ON := hide (hO2.out.trans0 o'); clear o')
                  | (go_at_call 11; (with_reducible refine (num_any _ _).mono ?_); rintro e u2 ⟨rfl, rfl⟩))
                go_roundw
                case rel => exact ⟨5, by omega, (by first | rfl | go_num), ON⟩
                case measure => simp [intOf]
              · subst h
                clear hq hq10
                simp only [Int.cast_ofNat_Int, Int.ofNat_zero]
                have h0 : C 40 = jcV PB 0 := hC.out 5 (by omega) 0 (by omega)
                have x0 : wr.cell? ⟨Q, 40, none⟩ = some (.int .i64 16) := ((BF.out.only hO2.out (by simp)).cell 40).trans ((arr_get _ (by omega)).trans (congrArg some (by simp [up, h0, jcV])))
                have h1 : C 41 = jcV PB 1 := hC.out 5 (by omega) 1 (by omega)
                have x1 : wr.cell? ⟨Q, 41, none⟩ = some (.int .i64 8) := ((BF.out.only hO2.out (by simp)).cell 41).trans ((arr_get _ (by omega)).trans (congrArg some (by simp [up, h1, jcV])))
                have h2 : C 42 = jcV PB 2 := hC.out 5 (by omega) 2 (by omega)
                have x2 : wr.cell? ⟨Q, 42, none⟩ = some (.int .i64 32) := ((BF.out.only hO2.out (by simp)).cell 42).trans ((arr_get _ (by omega)).trans (congrArg some (by simp [up, h2, jcV])))
                have h3 : C 43 = jcV PB 3 := hC.out 5 (by omega) 3 (by omega)
                have x3 : wr.cell? ⟨Q, 43, none⟩ = some (.int .i64 100) := ((BF.out.only hO2.out (by simp)).cell 43).trans ((arr_get _ (by omega)).trans (congrArg some (by simp [up, h3, jcV])))
                have h4 : C 44 = jcV PB 4 := hC.out 5 (by omega) 4 (by omega)
                have x4 : wr.cell? ⟨Q, 44, none⟩ = some (.int .i64 65536) := ((BF.out.only hO2.out (by simp)).cell 44).trans ((arr_get _ (by omega)).trans (congrArg some (by simp [up, h4, jcV])))
                have x5 : wr.cell? ⟨Q, 45, none⟩ = some (.int .i64 32) := ((BF.out.only hO2.out (by simp)).cell 45).trans ((arr_get _ (by omega)).trans (congrArg some (by simp [up])))
                have h6 : C 46 = jcV PB 6 := hC.out 5 (by omega) 6 (by omega)
                have x6 : wr.cell? ⟨Q, 46, none⟩ = some (.slice (some ⟨PB, 0, none⟩) 1 1) := ((BF.out.only hO2.out (by simp)).cell 46).trans ((arr_get _ (by omega)).trans (congrArg some (by simp [up, h6, jcV])))
                have h7 : C 47 = jcV PB 7 := hC.out 5 (by omega) 7 (by omega)
                have x7 : wr.cell? ⟨Q, 47, none⟩ = some (.slice none 0 0) := ((BF.out.only hO2.out (by simp)).cell 47).trans ((arr_get _ (by omega)).trans (congrArg some (by simp [up, h7, jcV])))
                have CJ := checkjob_any ⟨16, 8, 32, 100, 65536, 32, some ⟨PB, 0, none⟩, 1, 1, fun _ => ⟨some ⟨X, 0, none⟩, 256, 256, fS⟩, none, 0, 0, fun _ => .empty⟩ wr ⟨PGF.out wr hO2.out, fun k (hk : k < 0) => absurd hk (Nat.not_lt_zero _), (by show 1 ≤ maxLen; unfold maxLen; omega), (by show 0 ≤ maxLen; unfold maxLen; omega)⟩
                rw [job2_5 PB X SB TB tq] at CJ
                unfold jobV at CJ
                simp only [Int.cast_ofNat_Int] at CJ
                have CJ := hide CJ
                clear h0 h1 h2 h3 h4 h6 h7
                go_wp2_with (first
                  | (go_at_call 12; (with_reducible refine CJ.out.mono ?_); rintro e u1 ⟨rfl, o'⟩; have ON := hide (hO2.out.trans0 o'); clear o')
                  | (go_at_call 11; (with_reducible refine (num_any _ _).mono ?_); rintro e u2 ⟨rfl, rfl⟩))
                go_roundw
                case rel => exact ⟨6, by omega, (by first | rfl | go_num), ON⟩
                case measure => simp [intOf]
              · subst h
                clear hq hq10
                simp only [Int.cast_ofNat_Int, Int.ofNat_zero]
                have h0 : C 48 = jcV PB 0 := hC.out 6 (by omega) 0 (by omega)
                have x0 : wr.cell? ⟨Q, 48, none⟩ = some (.int .i64 16) := ((BF.out.only hO2.out (by simp)).cell 48).trans ((arr_get _ (by omega)).trans (congrArg some (by simp [up, h0, jcV])))
                have h1 : C 49 = jcV PB 1 := hC.out 6 (by omega) 1 (by omega)
                have x1 : wr.cell? ⟨Q, 49, none⟩ = some (.int .i64 8) := ((BF.out.only hO2.out (by simp)).cell 49).trans ((arr_get _ (by omega)).trans (congrArg some (by simp [up, h1, jcV])))
                have h2 : C 50 = jcV PB 2 := hC.out 6 (by omega) 2 (by omega)
                have x2 : wr.cell? ⟨Q, 50, none⟩ = some (.int .i64 32) := ((BF.out.only hO2.out (by simp)).cell 50).trans ((arr_get _ (by omega)).trans (congrArg some (by simp [up, h2, jcV])))
                have h3 : C 51 = jcV PB 3 := hC.out 6 (by omega) 3 (by omega)
                have x3 : wr.cell? ⟨Q, 51, none⟩ = some (.int .i64 100) := ((BF.out.only hO2.out (by simp)).cell 51).trans ((arr_get _ (by omega)).trans (congrArg some (by simp [up, h3, jcV])))
                have h4 : C 52 = jcV PB 4 := hC.out 6 (by omega) 4 (by omega)
                have x4 : wr.cell? ⟨Q, 52, none⟩ = some (.int .i64 65536) := ((BF.out.only hO2.out (by simp)).cell 52).trans ((arr_get _ (by omega)).trans (congrArg some (by simp [up, h4, jcV])))
                have h5 : C 53 = jcV PB 5 := hC.out 6 (by omega) 5 (by omega)
                have x5 : wr.cell? ⟨Q, 53, none⟩ = some (.int .i64 31) := ((BF.out.only hO2.out (by simp)).cell 53).trans ((arr_get _ (by omega)).trans (congrArg some (by simp [up, h5, jcV])))
                have x6 : wr.cell? ⟨Q, 54, none⟩ = some (.slice none 0 0) := ((BF.out.only hO2.out (by simp)).cell 54).trans ((arr_get _ (by omega)).trans (congrArg some (by simp [up])))
                have h7 : C 55 = jcV PB 7 := hC.out 6 (by omega) 7 (by omega)
                have x7 : wr.cell? ⟨Q, 55, none⟩ = some (.slice none 0 0) := ((BF.out.only hO2.out (by simp)).cell 55).trans ((arr_get _ (by omega)).trans (congrArg some (by simp [up, h7, jcV])))
                have CJ := checkjob_any ⟨16, 8, 32, 100, 65536, 31, none, 0, 0, fun _ => ⟨some ⟨X, 0, none⟩, 256, 256, fS⟩, none, 0, 0, fun _ => .empty⟩ wr ⟨fun k (hk : k < 0) => absurd hk (Nat.not_lt_zero _), fun k (hk : k < 0) => absurd hk (Nat.not_lt_zero _), (by show 0 ≤ maxLen; unfold maxLen; omega), (by show 0 ≤ maxLen; unfold maxLen; omega)⟩
                rw [job2_6 PB X SB TB tq] at CJ
                unfold jobV at CJ
                simp only [Int.cast_ofNat_Int] at CJ
                have CJ := hide CJ
                clear h0 h1 h2 h3 h4 h5 h7
                go_wp2_with (first
                  | (go_at_call 12; (with_reducible refine CJ.out.mono ?_); rintro e u1 ⟨rfl, o'⟩; have ON := hide (hO2.out.trans0 o'); clear o')
                  | (go_at_call 11; (with_reducible refine (num_any _ _).mono ?_); rintro e u2 ⟨rfl, rfl⟩))
                go_roundw
                case rel => exact ⟨7, by omega, (by first | rfl | go_num), ON⟩
                case measure => simp [intOf]
              · subst h
                clear hq hq10
                simp only [Int.cast_ofNat_Int, Int.ofNat_zero]
                have h0 : C 56 = jcV PB 0 := hC.out 7 (by omega) 0 (by omega)
                have x0 : wr.cell? ⟨Q, 56, none⟩ = some (.int .i64 16) := ((BF.out.only hO2.out (by simp)).cell 56).trans ((arr_get _ (by omega)).trans (congrArg some (by simp [up, h0, jcV])))
                have h1 : C 57 = jcV PB 1 := hC.out 7 (by omega) 1 (by omega)
                have x1 : wr.cell? ⟨Q, 57, none⟩ = some (.int .i64 8) := ((BF.out.only hO2.out (by simp)).cell 57).trans ((arr_get _ (by omega)).trans (congrArg some (by simp [up, h1, jcV])))
                have h2 : C 58 = jcV PB 2 := hC.out 7 (by omega) 2 (by omega)
                have x2 : wr.cell? ⟨Q, 58, none⟩ = some (.int .i64 32) := ((BF.out.only hO2.out (by simp)).cell 58).trans ((arr_get _ (by omega)).trans (congrArg some (by simp [up, h2, jcV])))
                have h3 : C 59 = jcV PB 3 := hC.out 7 (by omega) 3 (by omega)
                have x3 : wr.cell? ⟨Q, 59, none⟩ = some (.int .i64 100) := ((BF.out.only hO2.out (by simp)).cell 59).trans ((arr_get _ (by omega)).trans (congrArg some (by simp [up, h3, jcV])))
                have x4 : wr.cell? ⟨Q, 60, none⟩ = some (.int .i64 260) := ((BF.out.only hO2.out (by simp)).cell 60).trans ((arr_get _ (by omega)).trans (congrArg some (by simp [up])))
                have h5 : C 61 = jcV PB 5 := hC.out 7 (by omega) 5 (by omega)
                have x5 : wr.cell? ⟨Q, 61, none⟩ = some (.int .i64 31) := ((BF.out.only hO2.out (by simp)).cell 61).trans ((arr_get _ (by omega)).trans (congrArg some (by simp [up, h5, jcV])))
                have h6 : C 62 = jcV PB 6 := hC.out 7 (by omega) 6 (by omega)
                have x6 : wr.cell? ⟨Q, 62, none⟩ = some (.slice (some ⟨PB, 0, none⟩) 1 1) := ((BF.out.only hO2.out (by simp)).cell 62).trans ((arr_get _ (by omega)).trans (congrArg some (by simp [up, h6, jcV])))
                have h7 : C 63 = jcV PB 7 := hC.out 7 (by omega) 7 (by omega)
                have x7 : wr.cell? ⟨Q, 63, none⟩ = some (.slice none 0 0) := ((BF.out.only hO2.out (by simp)).cell 63).trans ((arr_get _ (by omega)).trans (congrArg some (by simp [up, h7, jcV])))
                have CJ := checkjob_any ⟨16, 8, 32, 100, 260, 31, some ⟨PB, 0, none⟩, 1, 1, fun _ => ⟨some ⟨X, 0, none⟩, 256, 256, fS⟩, none, 0, 0, fun _ => .empty⟩ wr ⟨PGF.out wr hO2.out, fun k (hk : k < 0) => absurd hk (Nat.not_lt_zero _), (by show 1 ≤ maxLen; unfold maxLen; omega), (by show 0 ≤ maxLen; unfold maxLen; omega)⟩
                rw [job2_7 PB X SB TB tq] at CJ
                unfold jobV at CJ
                simp only [Int.cast_ofNat_Int] at CJ
                have CJ := hide CJ
                clear h0 h1 h2 h3 h5 h6 h7
                go_wp2_with (first
                  | (go_at_call 12; (with_reducible refine CJ.out.mono ?_); rintro e u1 ⟨rfl, o'⟩; have ON := hide (hO2.out.trans0 o'); clear o')
                  | (go_at_call 11; (with_reducible refine (num_any _ _).mono ?_); rintro e u2 ⟨rfl, rfl⟩))
                go_roundw
                case rel => exact ⟨8, by omega, (by first | rfl | go_num), ON⟩
                case measure => simp [intOf]
              · subst h
                clear hq hq10
                simp only [Int.cast_ofNat_Int, Int.ofNat_zero]
                have h0 : C 64 = jcV PB 0 := hC.out 8 (by omega) 0 (by omega)
                have x0 : wr.cell? ⟨Q, 64, none⟩ = some (.int .i64 16) := ((BF.out.only hO2.out (by simp)).cell 64).trans ((arr_get _ (by omega)).trans (congrArg some (by simp [up, h0, jcV])))
                have h1 : C 65 = jcV PB 1 := hC.out 8 (by omega) 1 (by omega)
                have x1 : wr.cell? ⟨Q, 65, none⟩ = some (.int .i64 8) := ((BF.out.only hO2.out (by simp)).cell 65).trans ((arr_get _ (by omega)).trans (congrArg some (by simp [up, h1, jcV])))
                have h2 : C 66 = jcV PB 2 := hC.out 8 (by omega) 2 (by omega)
                have x2 : wr.cell? ⟨Q, 66, none⟩ = some (.int .i64 32) := ((BF.out.only hO2.out (by simp)).cell 66).trans ((arr_get _ (by omega)).trans (congrArg some (by simp [up, h2, jcV])))
                have h3 : C 67 = jcV PB 3 := hC.out 8 (by omega) 3 (by omega)
                have x3 : wr.cell? ⟨Q, 67, none⟩ = some (.int .i64 100) := ((BF.out.only hO2.out (by simp)).cell 67).trans ((arr_get _ (by omega)).trans (congrArg some (by simp [up, h3, jcV])))
                have h4 : C 68 = jcV PB 4 := hC.out 8 (by omega) 4 (by omega)
                have x4 : wr.cell? ⟨Q, 68, none⟩ = some (.int .i64 65536) := ((BF.out.only hO2.out (by simp)).cell 68).trans ((arr_get _ (by omega)).trans (congrArg some (by simp [up, h4, jcV])))
                have h5 : C 69 = jcV PB 5 := hC.out 8 (by omega) 5 (by omega)
                have x5 : wr.cell? ⟨Q, 69, none⟩ = some (.int .i64 31) := ((BF.out.only hO2.out (by simp)).cell 69).trans ((arr_get _ (by omega)).trans (congrArg some (by simp [up, h5, jcV])))
                have h6 : C 70 = jcV PB 6 := hC.out 8 (by omega) 6 (by omega)
                have x6 : wr.cell? ⟨Q, 70, none⟩ = some (.slice (some ⟨PB, 0, none⟩) 1 1) := ((BF.out.only hO2.out (by simp)).cell 70).trans ((arr_get _ (by omega)).trans (congrArg some (by simp [up, h6, jcV])))
                have x7 : wr.cell? ⟨Q, 71, none⟩ = some (.slice (some ⟨SB, 0, none⟩) 33 33) := ((BF.out.only hO2.out (by simp)).cell 71).trans ((arr_get _ (by omega)).trans (congrArg some (by simp [up])))
                have CJ := checkjob_any ⟨16, 8, 32, 100, 65536, 31, some ⟨PB, 0, none⟩, 1, 1, fun _ => ⟨some ⟨X, 0, none⟩, 256, 256, fS⟩, some ⟨SB, 0, none⟩, 33, 33, fun _ => ⟨#[]⟩⟩ wr ⟨PGF.out wr hO2.out, fun k (hk : k < 33) => ⟨_, rfl, by rw [add_mk, Nat.zero_add]; exact ((SF.out.only hO2.out (by simp)).cell k).trans (HZS.out k hk)⟩, (by show 1 ≤ maxLen; unfold maxLen; omega), (by show 33 ≤ maxLen; unfold maxLen; omega)⟩
                rw [job2_8 PB X SB TB tq] at CJ
                unfold jobV at CJ
                simp only [Int.cast_ofNat_Int] at CJ
                have CJ := hide CJ
                clear h0 h1 h2 h3 h4 h5 h6
                go_wp2_with (first
                  | (go_at_call 12; (with_reducible refine CJ.out.mono ?_); rintro e u1 ⟨rfl, o'⟩; have ON := hide (hO2.out.trans0 o'); clear o')
                  | (go_at_call 11; (with_reducible refine (num_any _ _).mono ?_); rintro e u2 ⟨rfl, rfl⟩))
                go_roundw
                case rel => exact ⟨9, by omega, (by first | rfl | go_num), ON⟩
                case measure => simp [intOf]
              · subst h
                clear hq hq10
                simp only [Int.cast_ofNat_Int, Int.ofNat_zero]
                have h0 : C 72 = jcV PB 0 := hC.out 9 (by omega) 0 (by omega)
                have x0 : wr.cell? ⟨Q, 72, none⟩ = some (.int .i64 16) := ((BF.out.only hO2.out (by simp)).cell 72).trans ((arr_get _ (by omega)).trans (congrArg some (by simp [up, h0, jcV])))
                have h1 : C 73 = jcV PB 1 := hC.out 9 (by omega) 1 (by omega)
                have x1 : wr.cell? ⟨Q, 73, none⟩ = some (.int .i64 8) := ((BF.out.only hO2.out (by simp)).cell 73).trans ((arr_get _ (by omega)).trans (congrArg some (by simp [up, h1, jcV])))
                have h2 : C 74 = jcV PB 2 := hC.out 9 (by omega) 2 (by omega)
                have x2 : wr.cell? ⟨Q, 74, none⟩ = some (.int .i64 32) := ((BF.out.only hO2.out (by simp)).cell 74).trans ((arr_get _ (by omega)).trans (congrArg some (by simp [up, h2, jcV])))
                have h3 : C 75 = jcV PB 3 := hC.out 9 (by omega) 3 (by omega)
                have x3 : wr.cell? ⟨Q, 75, none⟩ = some (.int .i64 100) := ((BF.out.only hO2.out (by simp)).cell 75).trans ((arr_get _ (by omega)).trans (congrArg some (by simp [up, h3, jcV])))
                have h4 : C 76 = jcV PB 4 := hC.out 9 (by omega) 4 (by omega)
                have x4 : wr.cell? ⟨Q, 76, none⟩ = some (.int .i64 65536) := ((BF.out.only hO2.out (by simp)).cell 76).trans ((arr_get _ (by omega)).trans (congrArg some (by simp [up, h4, jcV])))
                have h5 : C 77 = jcV PB 5 := hC.out 9 (by omega) 5 (by omega)
                have x5 : wr.cell? ⟨Q, 77, none⟩ = some (.int .i64 31) := ((BF.out.only hO2.out (by simp)).cell 77).trans ((arr_get _ (by omega)).trans (congrArg some (by simp [up, h5, jcV])))
                have h6 : C 78 = jcV PB 6 := hC.out 9 (by omega) 6 (by omega)
                have x6 : wr.cell? ⟨Q, 78, none⟩ = some (.slice (some ⟨PB, 0, none⟩) 1 1) := ((BF.out.only hO2.out (by simp)).cell 78).trans ((arr_get _ (by omega)).trans (congrArg some (by simp [up, h6, jcV])))
                have x7 : wr.cell? ⟨Q, 79, none⟩ = some (.slice (some ⟨TB, 0, none⟩) 1 1) := ((BF.out.only hO2.out (by simp)).cell 79).trans ((arr_get _ (by omega)).trans (congrArg some (by simp [up])))
                have CJ := checkjob_any ⟨16, 8, 32, 100, 65536, 31, some ⟨PB, 0, none⟩, 1, 1, fun _ => ⟨some ⟨X, 0, none⟩, 256, 256, fS⟩, some ⟨TB, 0, none⟩, 1, 1, fun _ => tq⟩ wr ⟨PGF.out wr hO2.out, fun k (hk : k < 1) => ⟨_, rfl, by obtain rfl : k = 0 := (by omega); exact ((TF.out.only hO2.out (by simp)).cell 0)⟩, (by show 1 ≤ maxLen; unfold maxLen; omega), (by show 1 ≤ maxLen; unfold maxLen; omega)⟩
                rw [job2_9 PB X SB TB tq HQ65.out] at CJ
                unfold jobV at CJ
                simp only [Int.cast_ofNat_Int] at CJ
                have CJ := hide CJ
                clear h0 h1 h2 h3 h4 h5 h6
                go_wp2_with (first
                  | (go_at_call 12; (with_reducible refine CJ.out.mono ?_); rintro e u1 ⟨rfl, o'⟩; have ON := hide (hO2.out.trans0 o'); clear o')
                  | (go_at_call 11; (with_reducible refine (num_any _ _).mono ?_); rintro e u2 ⟨rfl, rfl⟩))
                go_roundw
                case rel => exact ⟨10, by omega, (by first | rfl | go_num), ON⟩
                case measure => simp [intOf]
            · obtain rfl : q = 10 := by omega
              clear hq hq10
              go_wp2_with (first
                | (go_at_call 11; (with_reducible refine (num_any _ _).mono ?_); rintro e u2 ⟨rfl, rfl⟩)
                | (go_at_call 13; (with_reducible refine (KN.out _ (HOW.out.trans0 (OWF.out.trans0 hO2.out))).mono ?_); rintro e u3 ⟨rfl, o'⟩; have O9 := hide ((HOW.out.trans0 (OWF.out.trans0 hO2.out)).trans0 o'); clear o'))
              go_ret
              exact ⟨rfl, O9.out⟩
end Go.Proofs.YtmaljajdmgkakaaGreatDoor
