/- Script: the chapter's rows. No condition but what each theorem says. -/
import Derived.Test.YteblhklclcjonaaGreatDoorSr5
import Derived.Test.YteblhklclcjonaaGreatDoorSm3
import Derived.Test.YteblhklclcjonaaGreatDoorSe3
import Derived.Deep.RegionHeld3
import Derived.Test.YteblhklclcjonaaGreatDoorSe2
namespace Go.Proofs.YteblhklclcjonaaGreatDoor
open Go.RowKit
set_option linter.unusedVariables false
set_option linter.all false
set_option maxRecDepth 100000
def kt1 : List UInt8 := [106, 111, 98, 32, 49, 32, 49, 32, 49, 32, 49, 32, 50, 53, 54, 32, 53, 10, 112, 114, 111, 103, 114, 97, 109, 10, 101, 110, 100, 10, 116, 101, 120, 116, 32, 37, 10, 114, 117, 110, 32, 50, 10]
def kt2 : List UInt8 := [106, 111, 98, 32, 49, 32, 49, 32, 49, 32, 49, 32, 50, 53, 54, 32, 53, 10, 112, 114, 111, 103, 114, 97, 109, 10, 106, 117, 109, 112, 32, 50, 10, 116, 101, 120, 116, 32, 37, 10, 114, 117, 110, 32, 50, 10]
def kt3 : List UInt8 := [106, 111, 98, 32, 49, 32, 49, 32, 49, 32, 49, 32, 50, 53, 54, 32, 53, 10, 112, 114, 111, 103, 114, 97, 109, 10, 101, 110, 100, 10, 116, 101, 120, 116, 32, 37, 10, 114, 117, 110, 32, 50, 10, 114, 117, 110, 32, 50, 10]
def kt4 : List UInt8 := [106, 111, 98, 32, 49, 32, 49, 32, 49, 32, 49, 32, 50, 53, 54, 32, 53, 10, 112, 114, 111, 103, 114, 97, 109, 10, 101, 110, 100, 10, 116, 101, 120, 116, 32, 37, 10, 114, 117, 110, 32, 48, 10]
def kt5 : List UInt8 := [106, 111, 98, 32, 49, 32, 49, 32, 49, 32, 49, 32, 50, 53, 54, 32, 53, 10]
def outB : Option Sc × Nat × Int → Option (Nat × Nat × Nat) × Nat × Int := fun x => (x.1.map fun c => (c.ps.length, c.ts.length, c.es.length), x.2.1, x.2.2)
theorem k1_is : outB (parF kt1) = (some (1, 1, 2), 0, 0) := by kernel_rfl
theorem k2_is : outB (parF kt2) = (none, 2, 4) := by kernel_rfl
theorem k3_is : outB (parF kt3) = (none, 5, 4) := by kernel_rfl
theorem k4_is : outB (parF kt4) = (none, 4, 4) := by kernel_rfl
theorem k5_is : outB (parF kt5) = (none, 1, 4) := by kernel_rfl
end Go.Proofs.YteblhklclcjonaaGreatDoor
namespace Go.Proofs.YteblhklclcjonaaGreatDoor
open Go.RowKit Go.Shelf
set_option linter.unusedVariables false
set_option linter.all false
set_option maxRecDepth 20000
attribute [local go_sem ↓] app_hide

theorem neqSt (a b c d e f : Int) (W : World) : (binOp .neq 26 (.agg #[.int .i64 a, .int .i64 b, .int .i64 c]) (.agg #[.int .i64 d, .int .i64 e, .int .i64 f])).run Tryz.prog W = .ok (.bool (!((a == d && b == e) && c == f))) W := by
  by_cases h1 : a = d <;> by_cases h2 : b = e <;> by_cases h3 : c = f <;> simp [go_sem, h1, h2, h3]
theorem StV_get {l : List Str} {k : Nat} {x : Str} (h : l[k]? = some x) : (StV l)[k * 3]? = some (.int .i64 x.ev.kind) ∧ (StV l)[k * 3 + 1]? = some (.int .i64 x.ev.num) ∧ (StV l)[k * 3 + 2]? = some (.int .i64 x.n) := by
  induction l generalizing k with
  | nil => simp at h
  | cons y l ih =>
    have e : StV (y :: l) = .int .i64 y.ev.kind :: .int .i64 y.ev.num :: .int .i64 y.n :: StV l := by simp [StV]
    cases k with
    | zero =>
      simp at h
      subst h
      rw [e]
      exact ⟨rfl, rfl, rfl⟩
    | succ k =>
      simp at h
      have := ih h
      rw [e, show (k + 1) * 3 = k * 3 + 3 by omega]
      simpa using this
theorem Ss.cells {w : World} {B : Nat} {A : Option Addr} {c : Nat} {l : List Str} (h : Ss w B A c l) {k : Nat} {x : Str} (hx : l[k]? = some x) : ∃ g, A = some ⟨g, 0, none⟩ ∧ w.cell? ⟨g, k * 3, none⟩ = some (.int .i64 x.ev.kind) ∧ w.cell? ⟨g, k * 3 + 1, none⟩ = some (.int .i64 x.ev.num) ∧ w.cell? ⟨g, k * 3 + 2, none⟩ = some (.int .i64 x.n) := by
  have hk : k < l.length := by
    rcases Nat.lt_or_ge k l.length with q | q
    · exact q
    · rw [List.getElem?_eq_none q] at hx; cases hx
  obtain ⟨g, rfl, h1, _⟩ := own_cell h (by omega)
  obtain ⟨a, b, d⟩ := StV_get hx
  exact ⟨g, rfl, (h1 _ (by omega)).trans a, (h1 _ (by omega)).trans b, (h1 _ (by omega)).trans d⟩
set_option maxHeartbeats 2000000 in
theorem same_self (l : List Str) (hl : l.length ≤ 2000000) (B B' : Nat) (A A' : Option Addr) (c c' : Nat) (w : World) (h : Ss w B A c l) (h' : Ss w B' A' c' l) : Calls Tryz.prog 15 #[.slice A l.length c, .slice A' l.length c'] w fun e w' => e = .returned (.bool true) ∧ Only [] w w' := by
  have H1 := hide h
  have H2 := hide h'
  clear h h'
  obtain ⟨n, hn⟩ : ∃ n, l.length = n := ⟨_, rfl⟩
  rw [hn] at hl ⊢
  have HN := hide hn
  clear hn
  go_enter Tryz.func15, Tryz.ntmps15
  go_wp2_with fail
  go_loopw [5] (fun v wr => ∃ q : Nat, q ≤ n ∧ v = .int .i64 q ∧ Hid (Only [] w wr)) (fun v _ => n - (intOf v).toNat)
  case atStart => exact ⟨0, by omega, rfl, hide (Only.refl _ _)⟩
  case round =>
    obtain ⟨q, hq, rfl, hO⟩ := hrel
    by_cases hqn : q < n
    · obtain ⟨x, hx⟩ : ∃ x, l[q]? = some x := ⟨_, List.getElem?_eq_getElem (by rw [HN.out]; exact hqn)⟩
      obtain ⟨g, rfl, a0, a1, a2⟩ := (H1.out.only0 hO.out).cells hx
      obtain ⟨g', rfl, b0, b1, b2⟩ := (H2.out.only0 hO.out).cells hx
      obtain ⟨⟨k, m⟩, s⟩ := x
      simp only at a0 a1 a2 b0 b1 b2
      have j0 : (0 : Int) ≤ (q : Int) := by omega
      have j1 : (q : Int) < (n : Int) := by omega
      have NQ := fun V => neqSt k m s k m s V
      simp only [BEq.rfl, Bool.and_self, Bool.not_true] at NQ
      clear hx
      go_wp2_with fail
      go_quiet (fail)
      have hO2 := hide (hO.out.trans0 ((Only.refl [] wr).drewN nq))
      generalize wr.drewN nq = w9 at hO2 ⊢
      clear a0 a1 a2 b0 b1 b2 NQ hO
      go_wp2_with fail
      go_roundw
      case rel => exact ⟨q + 1, by omega, by go_num, hO2⟩
      case measure => simp [intOf]; omega
    · obtain rfl : q = n := by omega
      go_wp2_with fail
      go_ret
      exact ⟨rfl, hO.out⟩
end Go.Proofs.YteblhklclcjonaaGreatDoor
namespace Go.Proofs.YteblhklclcjonaaGreatDoor
open Go.RowKit
set_option linter.unusedVariables false
set_option linter.all false
set_option maxRecDepth 20000

def KE : Nat → Ev
  | 0 => ⟨1, 0⟩
  | 1 => ⟨1, 0⟩
  | 2 => ⟨2, 0⟩
  | 3 => ⟨3, 0⟩
  | _ => ⟨3, 0⟩
def KL : List Str := [⟨⟨1, 0⟩, 2⟩, ⟨⟨2, 0⟩, 1⟩, ⟨⟨3, 0⟩, 1⟩, ⟨⟨3, 0⟩, 1⟩]
theorem KL_is : strF (evL 5 KE) = KL := by kernel_rfl
theorem kl1 : mayS ⟨⟨1, 0⟩, 3⟩ = true := by kernel_rfl
theorem kl2 : mayS ⟨⟨3, 7⟩, 1⟩ = true := by kernel_rfl
theorem kl3 : mayS ⟨⟨3, 7⟩, 2⟩ = false := by kernel_rfl
theorem kl4 : mayS ⟨⟨2, 0⟩, 0⟩ = false := by kernel_rfl
theorem kb1 : bs (lineT ⟨⟨1, 0⟩, 3⟩) = ⟨#[114, 117, 110, 32, 51]⟩ := by kernel_rfl
theorem kb2 : bs (lineT ⟨⟨3, 7⟩, 1⟩) = ⟨#[105, 110, 116, 101, 114, 114, 117, 112, 116, 32, 55]⟩ := by kernel_rfl
theorem kline1 (w : World) (he : Env w) : Calls Tryz.prog 8 #[.agg #[.int .i64 1, .int .i64 0, .int .i64 3]] w fun e w' => e = .returned (.tuple #[.string ⟨#[114, 117, 110, 32, 51]⟩, .int .i64 0]) ∧ Only [] w w' := by
  have := sline_any 1 0 3 w he
  simp only [kl1, kb1, if_true] at this
  exact this
theorem kline2 (w : World) (he : Env w) : Calls Tryz.prog 8 #[.agg #[.int .i64 3, .int .i64 7, .int .i64 1]] w fun e w' => e = .returned (.tuple #[.string ⟨#[105, 110, 116, 101, 114, 114, 117, 112, 116, 32, 55]⟩, .int .i64 0]) ∧ Only [] w w' := by
  have := sline_any 3 7 1 w he
  simp only [kl2, kb2, if_true] at this
  exact this
theorem kline3 (w : World) (he : Env w) : Calls Tryz.prog 8 #[.agg #[.int .i64 3, .int .i64 7, .int .i64 2]] w fun e w' => e = .returned (.tuple #[.string ⟨#[]⟩, .int .i64 2]) ∧ Only [] w w' := by
  have := sline_any 3 7 2 w he
  simp only [kl3] at this
  exact this
theorem kline4 (w : World) (he : Env w) : Calls Tryz.prog 8 #[.agg #[.int .i64 2, .int .i64 0, .int .i64 0]] w fun e w' => e = .returned (.tuple #[.string ⟨#[]⟩, .int .i64 2]) ∧ Only [] w w' := by
  have := sline_any 2 0 0 w he
  simp only [kl4] at this
  exact this
theorem outB_none {x : Option Sc × Nat × Int} {n : Nat} {er : Int} (h : outB x = (none, n, er)) : x = (none, n, er) := by
  obtain ⟨a, b, c⟩ := x
  cases a with
  | some _ => simp [outB] at h
  | none => simpa [outB] using h
theorem kpar_bad (t : List UInt8) (n : Nat) (ht : t.length ≤ 2000000) (h : outB (parF t) = (none, n, 4)) (w : World) (he : Env w) (hw4 : 4 ≤ w.heap.size) : Calls Tryz.prog 29 #[.string (bs t)] w fun e w' => e = .returned (.tuple #[.agg #[.int .i64 0, .int .i64 0, .int .i64 0, .int .i64 0, .int .i64 0, .int .i64 0, .slice none 0 0, .slice none 0 0, .slice none 0 0], .int .i64 n, .int .i64 4]) ∧ Only [] w w' := by
  have := sparse_any t ht w he hw4
  rw [outB_none h] at this
  exact this
theorem kpar_good (w : World) (he : Env w) (hw4 : 4 ≤ w.heap.size) : Calls Tryz.prog 29 #[.string (bs kt1)] w fun e w' => (∃ (v : Nat → Int) (A : Option Addr) (k : Nat) (TA : Option Addr) (tc : Nat) (EA : Option Addr) (ec : Nat), e = .returned (.tuple #[.agg #[.int .i64 (v 0), .int .i64 (v 1), .int .i64 (v 2), .int .i64 (v 3), .int .i64 (v 4), .int .i64 (v 5), .slice A 1 k, .slice TA 1 tc, .slice EA 2 ec], .int .i64 0, .int .i64 0])) ∧ Only [] w w' := by
  have h1 := k1_is
  obtain ⟨x, hx⟩ : ∃ x, parF kt1 = x := ⟨_, rfl⟩
  have h2 := sparse_any kt1 (by decide) w he hw4
  rw [hx] at h1 h2
  obtain ⟨a, b, c⟩ := x
  cases a with
  | none => simp [outB] at h1
  | some sc =>
    simp only [outB, Option.map_some, Prod.mk.injEq, Option.some.injEq] at h1
    obtain ⟨⟨l1, l2, l3⟩, rfl, rfl⟩ := h1
    refine h2.mono ?_
    rintro e w' ⟨⟨A, k, vs, TA, tc, EA, ec, rfl, -, -, -⟩, o⟩
    rw [l1, l2, l3]
    exact ⟨⟨sc.v, A, k, TA, tc, EA, ec, rfl⟩, o⟩
theorem kev {W : World} {g : Nat} (h : Blk W g 24 #[.int .i64 1, .int .i64 0, .int .i64 1, .int .i64 0, .int .i64 2, .int .i64 0, .int .i64 3, .int .i64 0, .int .i64 3, .int .i64 0]) : EvAt W (some ⟨g, 0, none⟩) 5 KE := fun k hk => by
  have h0 := h.cell 0; have h1 := h.cell 1; have h2 := h.cell 2; have h3 := h.cell 3; have h4 := h.cell 4; have h5 := h.cell 5; have h6 := h.cell 6; have h7 := h.cell 7; have h8 := h.cell 8; have h9 := h.cell 9
  have hk5 : k = 0 ∨ k = 1 ∨ k = 2 ∨ k = 3 ∨ k = 4 := by omega
  refine ⟨_, rfl, ?_⟩
  rw [add_mk]
  rcases hk5 with rfl | rfl | rfl | rfl | rfl
  · exact ⟨h0, h1⟩
  · exact ⟨h2, h3⟩
  · exact ⟨h4, h5⟩
  · exact ⟨h6, h7⟩
  · exact ⟨h8, h9⟩
theorem ksame {W : World} {SB : Option Addr} {B sd g : Nat} (h : Ss W B SB sd KL) (hb : Blk W g 26 #[.int .i64 1, .int .i64 0, .int .i64 2, .int .i64 2, .int .i64 0, .int .i64 1, .int .i64 3, .int .i64 0, .int .i64 1, .int .i64 3, .int .i64 0, .int .i64 1]) : Calls Tryz.prog 15 #[.slice SB KL.length sd, .slice (some ⟨g, 0, none⟩) 4 4] W fun e w' => e = .returned (.bool true) ∧ Only [] W w' :=
  same_self KL (by decide) B 0 SB (some ⟨g, 0, none⟩) sd 4 W h ⟨by rfl, .inr ⟨g, 4, _, rfl, Nat.zero_le _, hb, by decide, by unfold maxLen; decide, rfl, rfl⟩⟩
set_option maxHeartbeats 8000000 in
theorem sknown_any (w : World) (he : Env w) (hw4 : 4 ≤ w.heap.size) : Calls Tryz.prog 7 #[] w fun e w' => e = .returned (.bool true) ∧ Only [] w w' := by
  have HE := hide he
  have OC := hide ((((Only.refl [] w).alloc (.cells #[.int .i64 1, .int .i64 0] 24)).alloc (.cells #[.int .i64 2, .int .i64 0] 24)).alloc (.cells #[.int .i64 3, .int .i64 7] 24))
  have T1 := hide (((Blk.new w 24 #[.int .i64 1, .int .i64 0]).alloc (.cells #[.int .i64 2, .int .i64 0] 24)).alloc (.cells #[.int .i64 3, .int .i64 7] 24))
  have T2 := hide ((Blk.new (w.alloc (.cells #[.int .i64 1, .int .i64 0] 24)) 24 #[.int .i64 2, .int .i64 0]).alloc (.cells #[.int .i64 3, .int .i64 7] 24))
  have T3 := hide (Blk.new ((w.alloc (.cells #[.int .i64 1, .int .i64 0] 24)).alloc (.cells #[.int .i64 2, .int .i64 0] 24)) 24 #[.int .i64 3, .int .i64 7])
  simp only [World.size_alloc] at T1 T2 T3
  have L1 := hide (fun W h => kline1 W h)
  have L2 := hide (fun W h => kline2 W h)
  have L3 := hide (fun W h => kline3 W h)
  have L4 := hide (fun W h => kline4 W h)
  have P1 := hide (fun W h h4 => (show Calls Tryz.prog 29 #[.string ⟨#[106, 111, 98, 32, 49, 32, 49, 32, 49, 32, 49, 32, 50, 53, 54, 32, 53, 10, 112, 114, 111, 103, 114, 97, 109, 10, 101, 110, 100, 10, 116, 101, 120, 116, 32, 37, 10, 114, 117, 110, 32, 50, 10]⟩] W _ from kpar_good W h h4))
  have P2 := hide (fun W h h4 => (show Calls Tryz.prog 29 #[.string ⟨#[106, 111, 98, 32, 49, 32, 49, 32, 49, 32, 49, 32, 50, 53, 54, 32, 53, 10, 112, 114, 111, 103, 114, 97, 109, 10, 106, 117, 109, 112, 32, 50, 10, 116, 101, 120, 116, 32, 37, 10, 114, 117, 110, 32, 50, 10]⟩] W _ from kpar_bad kt2 2 (by decide) k2_is W h h4))
  have P3 := hide (fun W h h4 => (show Calls Tryz.prog 29 #[.string ⟨#[106, 111, 98, 32, 49, 32, 49, 32, 49, 32, 49, 32, 50, 53, 54, 32, 53, 10, 112, 114, 111, 103, 114, 97, 109, 10, 101, 110, 100, 10, 116, 101, 120, 116, 32, 37, 10, 114, 117, 110, 32, 50, 10, 114, 117, 110, 32, 50, 10]⟩] W _ from kpar_bad kt3 5 (by decide) k3_is W h h4))
  have P4 := hide (fun W h h4 => (show Calls Tryz.prog 29 #[.string ⟨#[106, 111, 98, 32, 49, 32, 49, 32, 49, 32, 49, 32, 50, 53, 54, 32, 53, 10, 112, 114, 111, 103, 114, 97, 109, 10, 101, 110, 100, 10, 116, 101, 120, 116, 32, 37, 10, 114, 117, 110, 32, 48, 10]⟩] W _ from kpar_bad kt4 4 (by decide) k4_is W h h4))
  have P5 := hide (fun W h h4 => (show Calls Tryz.prog 29 #[.string ⟨#[106, 111, 98, 32, 49, 32, 49, 32, 49, 32, 49, 32, 50, 53, 54, 32, 53, 10]⟩] W _ from kpar_bad kt5 1 (by decide) k5_is W h h4))
  clear he
  go_enter Tryz.func7, Tryz.ntmps7
  go_wp2_with (first
    | (go_at_call 8; (with_reducible refine (L1.out _ (HE.out.only OC.out)).mono ?_); rintro e w1 ⟨rfl, o1⟩; have OC := hide (OC.out.trans0 o1); have T1 := hide (T1.out.only o1 (by simp)); have T2 := hide (T2.out.only o1 (by simp)); have T3 := hide (T3.out.only o1 (by simp)); have pT10 := T1.out.cell 0; have pT11 := T1.out.cell 1; have pT20 := T2.out.cell 0; have pT21 := T2.out.cell 1; have pT30 := T3.out.cell 0; have pT31 := T3.out.cell 1; clear o1)
    | (go_at_call 8; (with_reducible refine (L2.out _ (HE.out.only OC.out)).mono ?_); rintro e w1 ⟨rfl, o1⟩; have OC := hide (OC.out.trans0 o1); have T1 := hide (T1.out.only o1 (by simp)); have T2 := hide (T2.out.only o1 (by simp)); have T3 := hide (T3.out.only o1 (by simp)); have pT10 := T1.out.cell 0; have pT11 := T1.out.cell 1; have pT20 := T2.out.cell 0; have pT21 := T2.out.cell 1; have pT30 := T3.out.cell 0; have pT31 := T3.out.cell 1; clear o1)
    | (go_at_call 8; (with_reducible refine (L3.out _ (HE.out.only OC.out)).mono ?_); rintro e w1 ⟨rfl, o1⟩; have OC := hide (OC.out.trans0 o1); have T1 := hide (T1.out.only o1 (by simp)); have T2 := hide (T2.out.only o1 (by simp)); have T3 := hide (T3.out.only o1 (by simp)); have pT10 := T1.out.cell 0; have pT11 := T1.out.cell 1; have pT20 := T2.out.cell 0; have pT21 := T2.out.cell 1; have pT30 := T3.out.cell 0; have pT31 := T3.out.cell 1; clear o1)
    | (go_at_call 8; (with_reducible refine (L4.out _ (HE.out.only OC.out)).mono ?_); rintro e w1 ⟨rfl, o1⟩; have OC := hide (OC.out.trans0 o1); have T1 := hide (T1.out.only o1 (by simp)); have T2 := hide (T2.out.only o1 (by simp)); have T3 := hide (T3.out.only o1 (by simp)); have pT10 := T1.out.cell 0; have pT11 := T1.out.cell 1; have pT20 := T2.out.cell 0; have pT21 := T2.out.cell 1; have pT30 := T3.out.cell 0; have pT31 := T3.out.cell 1; have mT10 := (T1.out.alloc (.cells #[.int .i64 3, .int .i64 0] 24)).cell 0; have mT11 := (T1.out.alloc (.cells #[.int .i64 3, .int .i64 0] 24)).cell 1; have mT20 := (T2.out.alloc (.cells #[.int .i64 3, .int .i64 0] 24)).cell 0; have mT21 := (T2.out.alloc (.cells #[.int .i64 3, .int .i64 0] 24)).cell 1; have mT30 := (T3.out.alloc (.cells #[.int .i64 3, .int .i64 0] 24)).cell 0; have mT31 := (T3.out.alloc (.cells #[.int .i64 3, .int .i64 0] 24)).cell 1; have mz0 := (Blk.new w1 24 #[.int .i64 3, .int .i64 0]).cell 0; have mz1 := (Blk.new w1 24 #[.int .i64 3, .int .i64 0]).cell 1; have oz := ((Only.refl [] w1).alloc (.cells #[.int .i64 3, .int .i64 0] 24)).alloc (.cells #[.int .i64 1, .int .i64 0, .int .i64 1, .int .i64 0, .int .i64 2, .int .i64 0, .int .i64 3, .int .i64 0, .int .i64 3, .int .i64 0] 24); have T12 := hide ((Blk.new w1 24 #[.int .i64 3, .int .i64 0]).alloc (.cells #[.int .i64 1, .int .i64 0, .int .i64 1, .int .i64 0, .int .i64 2, .int .i64 0, .int .i64 3, .int .i64 0, .int .i64 3, .int .i64 0] 24)); have EV := hide (Blk.new (w1.alloc (.cells #[.int .i64 3, .int .i64 0] 24)) 24 #[.int .i64 1, .int .i64 0, .int .i64 1, .int .i64 0, .int .i64 2, .int .i64 0, .int .i64 3, .int .i64 0, .int .i64 3, .int .i64 0]); have OC := hide (OC.out.trans0 oz); have T1 := hide (T1.out.only oz (by simp)); have T2 := hide (T2.out.only oz (by simp)); have T3 := hide (T3.out.only oz (by simp)); clear oz; simp only [World.size_alloc] at EV; have S11 := hide (strs_any (some ⟨w1.heap.size + 1, 0, none⟩) 5 5 KE _ (by omega) (kev EV.out) (fun a ha => by cases ha; simp [World.size_alloc])); clear o1)
    | (go_at_call 11; (with_reducible refine S11.out.mono ?_); rintro e w1 ⟨⟨SB, sd, rfl, hss⟩, o1⟩; have hkl := KL_is; rw [hkl] at hss; (try simp only [hkl]); have SS := hide hss; have OC := hide (OC.out.trans0 o1); have T1 := hide (T1.out.only o1 (by simp)); have T2 := hide (T2.out.only o1 (by simp)); have T3 := hide (T3.out.only o1 (by simp)); have T12 := hide (T12.out.only o1 (by simp)); clear o1 hss hkl)
    | (go_at_call 29; (with_reducible refine (P1.out _ (HE.out.only OC.out) (by have := OC.out.size; omega)).mono ?_); rintro e w1 ⟨⟨v, A, k, TA, tc, EA, ec, rfl⟩, o1⟩; have oz := (Only.refl [] w1).alloc (.cells #[.int .i64 (v 0), .int .i64 (v 1), .int .i64 (v 2), .int .i64 (v 3), .int .i64 (v 4), .int .i64 (v 5), .slice A 1 k, .slice TA 1 tc, .slice EA 2 ec] 54); have S15 := hide (Blk.new w1 54 #[.int .i64 (v 0), .int .i64 (v 1), .int .i64 (v 2), .int .i64 (v 3), .int .i64 (v 4), .int .i64 (v 5), .slice A 1 k, .slice TA 1 tc, .slice EA 2 ec]); have o2 := o1.trans0 oz; have OC := hide (OC.out.trans0 o2); have SS := hide (SS.out.only0 o2); have T1 := hide (T1.out.only o2 (by simp)); have T2 := hide (T2.out.only o2 (by simp)); have T3 := hide (T3.out.only o2 (by simp)); have T12 := hide (T12.out.only o2 (by simp)); clear o1 oz o2)
    | (go_at_call 29; (with_reducible refine (P2.out _ (HE.out.only OC.out) (by have := OC.out.size; omega)).mono ?_); rintro e w1 ⟨rfl, o1⟩; have oz := (Only.refl [] w1).alloc (.cells #[.int .i64 0, .int .i64 0, .int .i64 0, .int .i64 0, .int .i64 0, .int .i64 0, .slice none 0 0, .slice none 0 0, .slice none 0 0] 54); have o2 := o1.trans0 oz; have OC := hide (OC.out.trans0 o2); have SS := hide (SS.out.only0 o2); have S15 := hide (S15.out.only o2 (by simp)); have T1 := hide (T1.out.only o2 (by simp)); have T2 := hide (T2.out.only o2 (by simp)); have T3 := hide (T3.out.only o2 (by simp)); have T12 := hide (T12.out.only o2 (by simp)); clear o1 oz o2)
    | (go_at_call 29; (with_reducible refine (P3.out _ (HE.out.only OC.out) (by have := OC.out.size; omega)).mono ?_); rintro e w1 ⟨rfl, o1⟩; have oz := (Only.refl [] w1).alloc (.cells #[.int .i64 0, .int .i64 0, .int .i64 0, .int .i64 0, .int .i64 0, .int .i64 0, .slice none 0 0, .slice none 0 0, .slice none 0 0] 54); have o2 := o1.trans0 oz; have OC := hide (OC.out.trans0 o2); have SS := hide (SS.out.only0 o2); have S15 := hide (S15.out.only o2 (by simp)); have T1 := hide (T1.out.only o2 (by simp)); have T2 := hide (T2.out.only o2 (by simp)); have T3 := hide (T3.out.only o2 (by simp)); have T12 := hide (T12.out.only o2 (by simp)); clear o1 oz o2)
    | (go_at_call 29; (with_reducible refine (P4.out _ (HE.out.only OC.out) (by have := OC.out.size; omega)).mono ?_); rintro e w1 ⟨rfl, o1⟩; have oz := (Only.refl [] w1).alloc (.cells #[.int .i64 0, .int .i64 0, .int .i64 0, .int .i64 0, .int .i64 0, .int .i64 0, .slice none 0 0, .slice none 0 0, .slice none 0 0] 54); have o2 := o1.trans0 oz; have OC := hide (OC.out.trans0 o2); have SS := hide (SS.out.only0 o2); have S15 := hide (S15.out.only o2 (by simp)); have T1 := hide (T1.out.only o2 (by simp)); have T2 := hide (T2.out.only o2 (by simp)); have T3 := hide (T3.out.only o2 (by simp)); have T12 := hide (T12.out.only o2 (by simp)); clear o1 oz o2)
    | (go_at_call 29; (with_reducible refine (P5.out _ (HE.out.only OC.out) (by have := OC.out.size; omega)).mono ?_); rintro e w1 ⟨rfl, o1⟩; have oz := (Only.refl [] w1).alloc (.cells #[.int .i64 0, .int .i64 0, .int .i64 0, .int .i64 0, .int .i64 0, .int .i64 0, .slice none 0 0, .slice none 0 0, .slice none 0 0] 54); have o2 := o1.trans0 oz; have OC := hide (OC.out.trans0 o2); have SS := hide (SS.out.only0 o2); have S15 := hide (S15.out.only o2 (by simp)); have T1 := hide (T1.out.only o2 (by simp)); have T2 := hide (T2.out.only o2 (by simp)); have T3 := hide (T3.out.only o2 (by simp)); have T12 := hide (T12.out.only o2 (by simp)); have pT10 := T1.out.cell 0; have pT11 := T1.out.cell 1; have pT20 := T2.out.cell 0; have pT21 := T2.out.cell 1; have pT30 := T3.out.cell 0; have pT31 := T3.out.cell 1; have pT120 := T12.out.cell 0; have pT121 := T12.out.cell 1; have oy := (Only.refl [] (w1.alloc (.cells #[.int .i64 0, .int .i64 0, .int .i64 0, .int .i64 0, .int .i64 0, .int .i64 0, .slice none 0 0, .slice none 0 0, .slice none 0 0] 54))).alloc (.cells #[.int .i64 1, .int .i64 0, .int .i64 2, .int .i64 2, .int .i64 0, .int .i64 1, .int .i64 3, .int .i64 0, .int .i64 1, .int .i64 3, .int .i64 0, .int .i64 1] 26); have BK := Blk.new (w1.alloc (.cells #[.int .i64 0, .int .i64 0, .int .i64 0, .int .i64 0, .int .i64 0, .int .i64 0, .slice none 0 0, .slice none 0 0, .slice none 0 0] 54)) 26 #[.int .i64 1, .int .i64 0, .int .i64 2, .int .i64 2, .int .i64 0, .int .i64 1, .int .i64 3, .int .i64 0, .int .i64 1, .int .i64 3, .int .i64 0, .int .i64 1]; simp only [World.size_alloc] at BK; have SM := hide (ksame (SS.out.only0 oy) BK); have S15 := hide (S15.out.only oy (by simp)); have OC := hide (OC.out.trans0 oy); clear o1 oz o2 oy BK)
    | (go_at_call 15; (with_reducible refine SM.out.mono ?_); rintro e w1 ⟨rfl, o1⟩; have OC := hide (OC.out.trans0 o1); have y6 := (S15.out.only o1 (by simp)).cell 6; have y7 := (S15.out.only o1 (by simp)).cell 7; have y8 := (S15.out.only o1 (by simp)).cell 8; clear o1)
    | (go_at_call 12; (with_reducible refine (num_any _ _).mono ?_); rintro e w1 ⟨rfl, hw⟩; obtain rfl := hw.symm; clear hw))
  go_ret
  exact ⟨rfl, OC.out⟩
end Go.Proofs.YteblhklclcjonaaGreatDoor
