/- Signals: what they are in memory, the program's ones; the walks of ask, Pending, Mask, Open, Used, SetMask. Condition: the signals lie. -/
import Derived.Test.YtnmlcijkggfhmaaProg
import Derived.Test.YtnmlcijkggfhmaaSg1
import Derived.Test.YtnmlcijkggfhmaaMore
import Derived.Test.YtnmlcijkggfhmaaMaps
import Derived.BigRegion
import Derived.Deep.RegionHeld3
import Derived.DeepKeys4
import Derived.Laws.Cover3
namespace Go.Proofs.Ytnmlcijkggfhmaa
open Go.RowKit
open Go.Maps (Keyed)
set_option linter.unusedVariables false
set_option linter.all false
set_option maxRecDepth 20000

def ptr (g : Nat) : Value := .pointer (some ⟨g, 0, none⟩)
theorem laid : laidOutB Try.prog = true := by kernel_rfl
theorem row64 : (64 : TypeId) < Try.prog.types.size := of_decide_eq_true (by kernel_rfl)
theorem cells64 : Try.prog.cellsOf 64 = 2 := by kernel_rfl
theorem cells3 : Try.prog.cellsOf 3 = 1 := by kernel_rfl
theorem wide64 : (match Try.prog.underlying 64 with | some (.array _ _) | some (.struct _) => true | _ => false) = true := by rw [Try.underlying64]
theorem keyed : Keyed Try.prog 64 := Keyed.of_law (deep_law_laid laid (m := 2) (by omega) row64 (by kernel_rfl) wide64)
/-- The key of a thread's queue. -/
def keyV (t m : Nat) : Value := .agg #[.int .i64 t, .int .i64 m]
theorem keyV_inj {t m u k : Nat} (h : keyV t m = keyV u k) : t = u ∧ m = k := by
  simp [keyV] at h
  omega
theorem keytype64 : Try.prog.keyType 64 = true := by kernel_rfl
theorem types_size : ∃ n, Try.prog.types.size = n + 1 := ⟨_, (Nat.succ_pred_eq_of_pos (Nat.lt_of_le_of_lt (Nat.zero_le 64) row64)).symm⟩
theorem keyOfV (t m : Nat) (ht : t < 16) (hm : m < 32) : ∃ l, keyOf Try.prog 64 (keyV t m) = some l := by
  have w1 : (Lit.int .i64 (t : Int)).wf = true := WalkArith.wf_i64 (by omega)
  have w2 : (Lit.int .i64 (m : Int)).wf = true := WalkArith.wf_i64 (by omega)
  have hf : (keyV t m).formed Try.prog 64 = true := by simp [keyV, Value.formed, Try.underlying64, cells64]
  obtain ⟨n, hn⟩ := types_size
  have hl : Try.prog.keyLits (n + 1 + 1) 64 [.int .i64 (t : Int), .int .i64 (m : Int)] = some [.int .i64 (t : Int), .int .i64 (m : Int)] := by
    unfold Program.keyLits
    simp only [Try.underlying64]
    have i0 : Try.prog.keyLits (n + 1) 3 [.int .i64 (t : Int)] = some [.int .i64 (t : Int)] := by
      unfold Program.keyLits
      simp only [Try.underlying3]
      simp [w1]
    have i1 : Try.prog.keyLits (n + 1) 3 [.int .i64 (m : Int)] = some [.int .i64 (m : Int)] := by
      unfold Program.keyLits
      simp only [Try.underlying3]
      simp [w2]
    simp [cells64, cells3, i0, i1]
  have hc : (keyV t m).cells.toList = [.int .i64 (t : Int), .int .i64 (m : Int)] := rfl
  refine ⟨.string (keyBytes [.int .i64 (t : Int), .int .i64 (m : Int)]), ?_⟩
  unfold keyOf
  simp only [Try.underlying64, keytype64, hf, hn, hc, hl]
  rfl

theorem set_eq {cs : Array Value} {i : Nat} {v : Value} (h : i < cs.size) : (cs.setIfInBounds i v)[i]? = some v := by simp [h]
theorem set_ne {cs : Array Value} {i j : Nat} {v : Value} (h : i ≠ j) : (cs.setIfInBounds i v)[j]? = cs[j]? := Array.getElem?_setIfInBounds_ne h

/-- A slice of numbers in a block of one of Bs. -/
def I64 (w : World) (Bs : List Nat) (A : Option Addr) (l : List Int) : Prop := 0 < l.length → ∃ (g o : Nat) (cs : Array Value), A = some ⟨g, o, none⟩ ∧ g ∈ Bs ∧ Blk w g 2 cs ∧ ∀ j x, l[j]? = some x → cs[o + j]? = some (.int .i64 x)
theorem I64.only {w w' : World} {Bs S : List Nat} {A : Option Addr} {l : List Int} (h : I64 w Bs A l) (o : Only S w w') (hS : ∀ b ∈ Bs, b ∉ S) : I64 w' Bs A l := fun hp => by
  obtain ⟨g, of, cs, e, hg, hb, hc⟩ := h hp
  exact ⟨g, of, cs, e, hg, hb.only o (hS g hg), hc⟩
theorem I64.mono {w : World} {Bs Cs : List Nat} {A : Option Addr} {l : List Int} (h : I64 w Bs A l) (hS : ∀ b ∈ Bs, b ∈ Cs) : I64 w Cs A l := fun hp => by
  obtain ⟨g, of, cs, e, hg, hb, hc⟩ := h hp
  exact ⟨g, of, cs, e, hS g hg, hb, hc⟩
/-- The map of queues, as a function of the keys. -/
def QF (w : World) (L : List Snt) (Bs : List Nat) (f : Value → Option Value) : Prop :=
  (∀ k v, f k = some v → ∃ t m, k = keyV t m ∧ t < 16 ∧ 16 ≤ m ∧ m < 32 ∧ queueOf L t m ≠ []) ∧
  ∀ t m, t < 16 → 16 ≤ m → m < 32 → queueOf L t m ≠ [] → ∃ A c, f (keyV t m) = some (.slice A (queueOf L t m).length c) ∧ (queueOf L t m).length ≤ c ∧ I64 w Bs A (queueOf L t m)
theorem QF.only {w w' : World} {L : List Snt} {Bs S : List Nat} {f : Value → Option Value} (h : QF w L Bs f) (o : Only S w w') (hS : ∀ b ∈ Bs, b ∉ S) : QF w' L Bs f :=
  ⟨h.1, fun t m h1 h2 h3 h4 => by
    obtain ⟨A, c, a1, a2, a4⟩ := h.2 t m h1 h2 h3 h4
    exact ⟨A, c, a1, a2, a4.only o hS⟩⟩
/-- The cells of signals. -/
structure SC (cs : Array Value) (T S : Nat) (L : List Snt) (M : Nat → Nat) (mb : Nat) : Prop where
  size : cs.size = 36
  t : cs[0]? = some (.int .i64 T)
  s : cs[1]? = some (.int .i64 S)
  u : cs[2]? = some (.int .i64 (usedOf L))
  m : ∀ i, i < 16 → cs[3 + i]? = some (.int .u32 (M i))
  p : ∀ i, i < 16 → cs[19 + i]? = some (.int .u32 (pendOf L i))
  q : cs[35]? = some (.map (some mb))
/-- Signals in memory: T threads, S slots, L pending, masks M; the object g, the map mb, the queues in the blocks Bs. -/
structure SG (w : World) (g mb : Nat) (T S : Nat) (L : List Snt) (M : Nat → Nat) (Bs : List Nat) : Prop where
  cells : ∃ cs, Blk w g 61 cs ∧ SC cs T S L M mb
  map : ∃ f n, Mp Try.prog 64 w mb f n ∧ QF w L Bs f
  inv : SInv T S L
  t0 : 1 ≤ T
  t1 : T ≤ 16
  s0 : 1 ≤ S
  s1 : S ≤ 32
  mlt : ∀ i, i < 16 → M i < 4294967296
  bs : ∀ b ∈ Bs, ∃ cs, Blk w b 2 cs
section
variable {w w' : World} {g mb T S : Nat} {L : List Snt} {M : Nat → Nat} {Bs R : List Nat}
theorem SG.only (h : SG w g mb T S L M Bs) (o : Only R w w') (hg : g ∉ R) (hm : mb ∉ R) (hB : ∀ b ∈ Bs, b ∉ R) : SG w' g mb T S L M Bs := by
  obtain ⟨cs, hb, hC⟩ := h.cells
  obtain ⟨f, n, hM, hQ⟩ := h.map
  exact ⟨⟨cs, hb.only o hg, hC⟩, ⟨f, n, hM.only o hm, hQ.only o hB⟩, h.inv, h.t0, h.t1, h.s0, h.s1, h.mlt, fun b hb' => by
    obtain ⟨cs, hc⟩ := h.bs b hb'
    exact ⟨cs, hc.only o (hB b hb')⟩⟩
theorem SG.only0 (h : SG w g mb T S L M Bs) (o : Only [] w w') : SG w' g mb T S L M Bs := h.only o (by simp) (by simp) (by simp)
theorem SG.ne (h : SG w g mb T S L M Bs) : mb ≠ g := by
  obtain ⟨cs, hb, _⟩ := h.cells
  obtain ⟨f, n, hM, _⟩ := h.map
  exact hM.ne_blk hb
theorem SG.nb (h : SG w g mb T S L M Bs) : (∀ b ∈ Bs, b ≠ g ∧ b ≠ mb) := fun b hb => by
  obtain ⟨cs, hc, _⟩ := h.cells
  obtain ⟨cs', hc'⟩ := h.bs b hb
  obtain ⟨f, n, hM, _⟩ := h.map
  exact ⟨Blk.ne_ hc' hc (by decide), fun e => hM.ne_blk hc' e.symm⟩
theorem SG.lt (h : SG w g mb T S L M Bs) : g < w.heap.size ∧ mb < w.heap.size ∧ ∀ b ∈ Bs, b < w.heap.size := by
  obtain ⟨cs, hb, _⟩ := h.cells
  obtain ⟨f, n, hM, _⟩ := h.map
  exact ⟨hb.lt, hM.lt, fun b hb' => by obtain ⟨cs, hc⟩ := h.bs b hb'; exact hc.lt⟩
theorem SG.plt (h : SG w g mb T S L M Bs) (t : Nat) : pendOf L t < 4294967296 := pend_lt L t h.inv.n2
end
theorem nilMap_any (m : Option Nat) (W : World) : (binOp .eql 59 (.map m) (.map none)).run Try.prog W = .ok (.bool m.isNone) W := by
  simp only [binOp]
  simp [run_equal_map_nil W 59 64 29 m Try.underlying59]
theorem nilMap_none (W : World) : (binOp .eql 59 (.map none) (.map none)).run Try.prog W = .ok (.bool true) W := nilMap_any none W
theorem nilMap_some (b : Nat) (W : World) : (binOp .eql 59 (.map (some b)) (.map none)).run Try.prog W = .ok (.bool false) W := nilMap_any (some b) W
/-- What is wrong with a thread. -/
def askC (T : Nat) (t : Int) : Int := if 0 ≤ t ∧ t < T then 0 else 2
theorem ask_nil (t : Int) (w : World) : Calls Try.prog 25 #[.pointer none, .int .i64 t] w fun e w' => e = .returned (.int .i64 1) ∧ w' = w := by
  go_enter Try.func25, Try.ntmps25
  go_wp2_with fail
  go_ret
  exact ⟨rfl, rfl⟩
theorem ask_zero (g : Nat) (t : Int) (w : World) (h : w.cell? ⟨g, 35, none⟩ = some (.map none)) : Calls Try.prog 25 #[ptr g, .int .i64 t] w fun e w' => e = .returned (.int .i64 1) ∧ w' = w := by
  unfold ptr
  have hM := nilMap_none
  go_enter Try.func25, Try.ntmps25
  go_wp2_with fail
  go_ret
  exact ⟨rfl, rfl⟩
theorem ask_any (g mb T : Nat) (t : Int) (w : World) (h0 : w.cell? ⟨g, 0, none⟩ = some (.int .i64 T)) (h35 : w.cell? ⟨g, 35, none⟩ = some (.map (some mb))) : Calls Try.prog 25 #[ptr g, .int .i64 t] w fun e w' => e = .returned (.int .i64 (askC T t)) ∧ w' = w := by
  unfold askC ptr
  have hM := nilMap_some mb
  by_cases c1 : t < 0
  · rw [if_neg (by omega)]
    have d1 : decide (t < 0) = true := decide_eq_true c1
    go_enter Try.func25, Try.ntmps25
    go_wp2_with fail
    go_ret
    exact ⟨rfl, rfl⟩
  have d1 : decide (t < 0) = false := decide_eq_false c1
  by_cases c2 : (T : Int) ≤ t
  · rw [if_neg (by omega)]
    have d2 : decide ((T : Int) ≤ t) = true := decide_eq_true c2
    go_enter Try.func25, Try.ntmps25
    go_wp2_with fail
    go_ret
    exact ⟨rfl, rfl⟩
  · rw [if_pos (by omega)]
    have d2 : decide ((T : Int) ≤ t) = false := decide_eq_false c2
    go_enter Try.func25, Try.ntmps25
    go_wp2_with fail
    go_ret
    exact ⟨rfl, rfl⟩
theorem ask_sg {w : World} {g mb T S : Nat} {L : List Snt} {M : Nat → Nat} {Bs : List Nat} (h : SG w g mb T S L M Bs) (t : Int) : Calls Try.prog 25 #[ptr g, .int .i64 t] w fun e w' => e = .returned (.int .i64 (askC T t)) ∧ w' = w := by
  obtain ⟨cs, hb, hC⟩ := h.cells
  exact ask_any g mb T t w ((hb.cell 0).trans hC.t) ((hb.cell 35).trans hC.q)
end Go.Proofs.Ytnmlcijkggfhmaa
