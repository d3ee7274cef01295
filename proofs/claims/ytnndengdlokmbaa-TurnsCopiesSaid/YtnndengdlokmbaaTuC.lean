/- Turns: the walk of Copy; what TurnsCopies keeps; its walk. Condition: the scripts' cells lie. -/
import Derived.Test.YtnndengdlokmbaaTuP
import Derived.Test.YtnndengdlokmbaaTuS
import Derived.Deep.RegionHeld3
import Derived.BigQuiet
namespace Go.Proofs.Ytnndengdlokmbaa
open Go.RowKit
set_option linter.unusedVariables false
set_option linter.all false
set_option maxRecDepth 20000

theorem TC.one {cs : Array Value} {g : Nat} {Q : Int} {q : Nat → List Nat} {rob : Nat → Bool} {lf : Nat → Int} (h : TC cs g Q q rob lf) : cs.all (·.oneCell') = true := by
  rw [Array.all_eq_true]
  intro i hi
  have hz := h.size
  have key : ∀ v, cs[i]? = some v → v.oneCell' = true → cs[i].oneCell' = true := fun v h1 h2 => by
    rw [Array.getElem?_eq_getElem hi] at h1
    rw [Option.some.inj h1]
    exact h2
  by_cases e0 : i = 0
  · subst e0; exact key _ h.r rfl
  by_cases e1 : i = 1
  · subst e1; exact key _ h.qu rfl
  obtain ⟨t, k, hk, rfl⟩ : ∃ t k, k < 4 ∧ i = 2 + t * 4 + k := ⟨(i - 2) / 4, (i - 2) % 4, by omega, by omega⟩
  have ht : t < 16 := by omega
  match k, hk with
  | 0, _ => exact key _ (h.inn t ht) rfl
  | 1, _ => exact key _ (h.rob t ht) rfl
  | 2, _ => exact key _ (h.pr t ht) rfl
  | 3, _ => exact key _ (h.lf t ht) rfl
theorem TC.setr {cs : Array Value} {g : Nat} {Q : Int} {q : Nat → List Nat} {rob : Nat → Bool} {lf : Nat → Int} (h : TC cs g Q q rob lf) (y : Nat) : TC (cs.setIfInBounds 0 (.pointer (some ⟨y, 0, none⟩))) y Q q rob lf := by
  have hz := h.size
  exact ⟨by simpa using hz, set_eq (by omega), (set_ne (by omega)).trans h.qu, fun t ht => (set_ne (by omega)).trans (h.inn t ht), fun t ht => (set_ne (by omega)).trans (h.rob t ht), fun t ht => (set_ne (by omega)).trans (h.pr t ht), fun t ht => (set_ne (by omega)).trans (h.lf t ht)⟩
theorem size60 : (Try.prog.info? 60).map (·.size) = some 66 := by kernel_rfl
theorem Z60_size : Z60.size = 66 := by decide +kernel
set_option maxHeartbeats 2000000 in
theorem tcopy_any (x g : Nat) (Q : Int) (s : SS) (B : Int) (w : World) (h : BS w x g Q s B) : Calls Try.prog 23 #[.pointer (some ⟨x, 0, none⟩)] w fun e w' => ∃ y k, e = .returned (.pointer (some ⟨y, 0, none⟩)) ∧ BS w' y k Q s B ∧ w.heap.size ≤ y ∧ w.heap.size ≤ k ∧ Only [] w w' := by
  have IS := hide h.isB
  obtain ⟨st, s1, s2, ⟨cs, hB, hC⟩, hR⟩ := h
  have hz := hC.size
  have k0 := (hB.cell 0).trans hC.r
  have HR := hide (show w.rangeAt x 0 cs.toList from fun j v hv => by rw [Nat.zero_add, hB.cell]; simpa using hv)
  have HI := hide (show (Try.prog.info? 60).map (·.size) = some cs.toList.length by rw [Array.length_toList, hz]; exact size60)
  have HI' := hide (show (Try.prog.info? 60).map (·.size) = some cs.size by rw [hz]; exact size60)
  have HS := hide (Z60_size.trans hz.symm)
  have H1 := hide hC.one
  have hZ := zero60
  have HU := hide Try.underlying60
  have oA : Only [] w (w.alloc (.cells cs 60)) := (Only.refl [] w).alloc _
  have CP := copy_spec g s.q st (w.alloc (.cells cs 60)) (hR.only oA (by simp))
  have bY := Blk.new w 60 cs
  have kx := oA.keep0 k0
  have CP := hide CP
  have HOA := hide oA
  have HY := hide bY
  have HC := hide hC
  clear hB hC hR hz oA bY
  unfold ptr at CP
  go_enter Try.func23, Try.ntmps23
  go_wp2_with (first
    | (go_at_call 34; refine IS.out.mono ?_; rintro e w' ⟨rfl, hw⟩; obtain rfl := hw)
    | (refine wpList_load_mid rfl 60 _ rfl x 0 rfl cs.toList _ HR.out HU.out rfl HI.out ?_)
    | (refine wpList_store_new rfl 60 _ _ rfl Z60 cs rfl rfl rfl HI'.out HS.out H1.out ?_)
    | (go_at_call 49; refine CP.out.mono ?_; rintro e w2 ⟨rfl, R2, o2⟩; have b2 := HY.out.only o2 (by simp); have c2 := (b2.cell 0).trans HC.out.r; have f2 := b2.frozen 0))
  go_ret
  have hs2 := o2.size
  have oo := HOA.out.trans0 o2
  have os : Only [w.heap.size] w2 (w2.setCell ⟨w.heap.size, 0, none⟩ (.pointer (some ⟨w.heap.size + 1, 0, none⟩))) := (Only.refl _ w2).setCell (p := ⟨w.heap.size, 0, none⟩) (.inl (by simp)) _
  refine ⟨w.heap.size, w.heap.size + 1, rfl, ⟨st, s1, s2, ⟨_, b2.set_ 0 (.pointer (some ⟨w.heap.size + 1, 0, none⟩)), HC.out.setr (w.heap.size + 1)⟩, ?_⟩, Nat.le_refl _, by omega, oo.setCell (p := ⟨w.heap.size, 0, none⟩) (.inr (Nat.le_refl _)) _⟩
  have R3 := R2.only os (by simp)
  rw [World.size_alloc] at R3
  exact R3
/-- The blocks lie in this order. -/
structure Ord (n x g o k r q : Nat) : Prop where
  a1 : n ≤ x
  a2 : n ≤ g
  b1 : x < o
  b2 : x < k
  b3 : g < o
  b4 : g < k
  c1 : o < r
  c2 : k < r
  d : r < q
/-- Two turns of the program's and two of the document's. -/
structure Four (w wr : World) (x g o k r q : Nat) (Q : Int) (s s2 : SS) (B : Int) : Prop where
  bx : BS wr x g Q s B
  bo : BS wr o k Q s2 B
  dr : DT wr r Q s
  dq : DT wr q Q s2
  ow : Only [] w wr
  ord : Ord w.heap.size x g o k r q
theorem norow3 {W : World} {x g d : Nat} {Q Q2 : Int} {s s2 : SS} {B : Int} (h : BS W x g Q s B) (hd : DT W d Q2 s2) : NoRow W [x, g, d] := by
  intro k hk hl
  simp at hk
  rcases hk with rfl | rfl | rfl
  · exact h.noRow _ (by simp) hl
  · exact h.noRow _ (by simp) hl
  · exact DR.noRow hd _ (by simp) hl
theorem Four.mono {w wr : World} {x g o k r q : Nat} {Q : Int} {s s2 : SS} {B B' : Int} (h : Four w wr x g o k r q Q s s2 B) (hB : B ≤ B') : Four w wr x g o k r q Q s s2 B' :=
  ⟨BS.mono hB h.bx, BS.mono hB h.bo, h.dr, h.dq, h.ow, h.ord⟩
theorem Four.first {w wr w2 : World} {x g o k r q : Nat} {Q : Int} {s s2 s' : SS} {B : Int} (h : Four w wr x g o k r q Q s s2 B) (b : BS w2 x g Q s' (B + 9)) (d : DT w2 r Q s') (o2 : Only [x, g, r] wr w2) : Four w w2 x g o k r q Q s' s2 (B + 9) := by
  obtain ⟨a1, a2, b1, b2, b3, b4, c1, c2, d1⟩ := h.ord
  refine ⟨b, BS.mono (by omega) (h.bo.only o2 (by simp; omega) (by simp; omega)), d, h.dq.only o2 (norow3 h.bx h.dr) (by simp; omega), only_in h.ow o2 (fun i hi => ?_), h.ord⟩
  simp at hi
  rcases hi with rfl | rfl | rfl <;> omega
theorem Four.second {w wr w2 : World} {x g o k r q : Nat} {Q : Int} {s s2 s' : SS} {B : Int} (h : Four w wr x g o k r q Q s s2 B) (b : BS w2 o k Q s' (B + 9)) (d : DT w2 q Q s') (o2 : Only [o, k, q] wr w2) : Four w w2 x g o k r q Q s s' (B + 9) := by
  obtain ⟨a1, a2, b1, b2, b3, b4, c1, c2, d1⟩ := h.ord
  refine ⟨BS.mono (by omega) (h.bx.only o2 (by simp; omega) (by simp; omega)), b, h.dr.only o2 (norow3 h.bo h.dq) (by simp; omega), d, only_in h.ow o2 (fun i hi => ?_), h.ord⟩
  simp at hi
  rcases hi with rfl | rfl | rfl <;> omega
theorem four_start {w w1 w2 w3 w4 : World} {x g o k r q : Nat} {Q : Int} (rx : TT w1 x g Q (fun _ => []) (fun _ => false) (fun _ => 0) 0) (ro : TT w2 o k Q (fun _ => []) (fun _ => false) (fun _ => 0) 0) (dr : DT w3 r Q s0) (dq : DT w4 q Q s0)
    (hx : w.heap.size ≤ x) (hg : w.heap.size ≤ g) (ho : w1.heap.size ≤ o) (hk : w1.heap.size ≤ k) (hr : w2.heap.size ≤ r) (hq : w3.heap.size ≤ q) (o1 : Only [] w w1) (o2 : Only [] w1 w2) (o3 : Only [] w2 w3) (o4 : Only [] w3 w4) :
    Four w w4 x g o k r q Q s0 s0 0 := by
  have bx : BS w1 x g Q s0 0 := ⟨0, by decide, by decide, rx⟩
  have bo : BS w2 o k Q s0 0 := ⟨0, by decide, by decide, ro⟩
  have e1 := bx.facts.2.2
  have e2 := bo.facts.2.2
  have e3 := dr.lt
  exact ⟨bx.only ((o2.trans0 o3).trans0 o4) (by simp) (by simp), bo.only (o3.trans0 o4) (by simp) (by simp), dr.only0 o4, dq, ((o1.trans0 o2).trans0 o3).trans0 o4, ⟨hx, hg, by omega, by omega, by omega, by omega, by omega, by omega, by omega⟩⟩
/-- The copy beside them. -/
structure Five (w wr : World) (x g o k r q c h : Nat) (Q : Int) (s s2 : SS) (B B2 : Int) : Prop where
  bx : BS wr x g Q s B
  bo : BS wr o k Q s B
  dr : DT wr r Q s
  bc : BS wr c h Q s2 B2
  dq : DT wr q Q s2
  ow : Only [] w wr
  ord : Ord w.heap.size x g o k r q
  e1 : q < c
  e2 : q < h
theorem Four.copy {w wr w2 : World} {x g o k r q c h : Nat} {Q : Int} {s : SS} {B : Int} (f : Four w wr x g o k r q Q s s B) (b : BS w2 c h Q s B) (hc : wr.heap.size ≤ c) (hh : wr.heap.size ≤ h) (o2 : Only [] wr w2) : Five w w2 x g o k r q c h Q s s B B := by
  have := f.dq.lt
  exact ⟨f.bx.only o2 (by simp) (by simp), f.bo.only o2 (by simp) (by simp), f.dr.only0 o2, b, f.dq.only0 o2, f.ow.trans0 o2, f.ord, by omega, by omega⟩
theorem Five.only {w wr w2 : World} {x g o k r q c h : Nat} {Q : Int} {s s2 : SS} {B B2 : Int} (f : Five w wr x g o k r q c h Q s s2 B B2) (o2 : Only [] wr w2) : Five w w2 x g o k r q c h Q s s2 B B2 :=
  ⟨f.bx.only o2 (by simp) (by simp), f.bo.only o2 (by simp) (by simp), f.dr.only0 o2, f.bc.only o2 (by simp) (by simp), f.dq.only0 o2, f.ow.trans0 o2, f.ord, f.e1, f.e2⟩
theorem Five.step {w wr w2 : World} {x g o k r q c h : Nat} {Q : Int} {s s2 s' : SS} {B B2 B3 : Int} (f : Five w wr x g o k r q c h Q s s2 B B2) (b : BS w2 c h Q s' B3) (d : DT w2 q Q s') (o2 : Only [c, h, q] wr w2) : Five w w2 x g o k r q c h Q s s' B B3 := by
  obtain ⟨a1, a2, b1, b2, b3, b4, c1, c2, d1⟩ := f.ord
  have e1 := f.e1
  have e2 := f.e2
  refine ⟨f.bx.only o2 (by simp; omega) (by simp; omega), f.bo.only o2 (by simp; omega) (by simp; omega), f.dr.only o2 (norow3 f.bc f.dq) (by simp; omega), b, d, only_in f.ow o2 (fun i hi => ?_), f.ord, e1, e2⟩
  simp at hi
  rcases hi with rfl | rfl | rfl <;> omega
theorem Five.monoB {w wr : World} {x g o k r q c h : Nat} {Q : Int} {s s2 : SS} {B B2 B3 : Int} (f : Five w wr x g o k r q c h Q s s2 B B2) (hB : B2 ≤ B3) : Five w wr x g o k r q c h Q s s2 B B3 :=
  ⟨f.bx, f.bo, f.dr, BS.mono hB f.bc, f.dq, f.ow, f.ord, f.e1, f.e2⟩
theorem Five.ordS {w wr : World} {x g o k r q c h : Nat} {Q : Int} {s s2 : SS} {B B2 : Int} (f : Five w wr x g o k r q c h Q s s2 B B2) : ∀ i ∈ [x, g, r], w.heap.size ≤ i := fun i hi => by
  obtain ⟨a1, a2, b1, b2, b3, b4, c1, c2, d1⟩ := f.ord
  simp at hi
  rcases hi with rfl | rfl | rfl <;> omega
/-! ## Alike -/
def eqTo (s s2 : SS) (p : Nat) : Bool := (List.range p).all fun j => decide (j = 0 ∨ s.q j = s2.q j)
theorem eqTo_one (s s2 : SS) : eqTo s s2 1 = true := by simp [eqTo]
theorem eqTo_step (s s2 : SS) (p : Nat) (hp : 1 ≤ p) : eqTo s s2 (p + 1) = (eqTo s s2 p && decide (s.q p = s2.q p)) := by
  unfold eqTo
  rw [List.range_succ, List.all_append]
  have : p ≠ 0 := by omega
  simp [this]
def prA (s s2 : SS) : Bool := (List.range 16).all fun t => (prioQ s.q t : Int) == (prioQ s2.q t : Int)
def rbA (s s2 : SS) : Bool := (List.range 16).all fun t => s.rob t == s2.rob t
def lfA (s s2 : SS) : Bool := (List.range 16).all fun t => s.lf t == s2.lf t
theorem alike_end (Q : Int) (s s2 : SS) (h0 : s.q 0 = []) (h1 : s2.q 0 = []) : (prA s s2 && rbA s s2 && lfA s s2 && eqTo s s2 32) = decide (SameS Q Q s2 s) := by
  rw [Bool.eq_iff_iff, decide_eq_true_iff]
  simp only [prA, rbA, lfA, eqTo, Bool.and_eq_true, List.all_eq_true, List.mem_range, beq_iff_eq, decide_eq_true_eq]
  constructor
  · rintro ⟨⟨⟨a, b⟩, c⟩, e⟩
    refine ⟨fun p p1 p2 => ?_, rfl, fun t ht => ⟨(b t ht).symm, (c t ht).symm⟩⟩
    rcases e p p2 with h | h
    · omega
    · exact h.symm
  · rintro ⟨a, _, b⟩
    have hq : ∀ p, p < 32 → s.q p = s2.q p := fun p hp => by
      by_cases e : p = 0
      · subst e; rw [h0, h1]
      · exact (a p (by omega) hp).symm
    refine ⟨⟨⟨fun t _ => by rw [prioQ_congr hq t], fun t ht => (b t ht).1.symm⟩, fun t ht => (b t ht).2.symm⟩, fun p hp => .inr (hq p hp)⟩
theorem ints_quiet (A B : Option Addr) (c d n m : Nat) (l r : List Nat) (hn : l.length = n) (hm : r.length = m) (b : Bool) (hb : decide (l = r) = b) (w : World) (n0 : Nat) (hA : Nsrc w A l) (hB : Nsrc w B r) (h1 : n ≤ 1000) (h2 : m ≤ 1000) :
    Calls Try.prog 18 #[.slice A n c, .slice B m d] (w.drewN n0) fun e w' => e = .returned (.bool b) ∧ ∃ k, w' = w.drewN k := by
  subst hn hm hb
  refine (ints_any A B c d l r (w.drewN n0) (hA.drewN n0) (hB.drewN n0) h1 h2).mono ?_
  rintro e w' ⟨he, k, hk⟩
  exact ⟨he, n0 + k, by rw [hk, World.drewN_drewN]⟩
/-- The arrays of the document's turns. -/
theorem DT.rows {W : World} {d : Nat} {Q : Int} {s : SS} (h : DT W d Q s) : ∃ P R L : List Value, (P.length = 16 ∧ R.length = 16 ∧ L.length = 16) ∧ W.rangeAt d 33 P ∧ W.rangeAt d 49 R ∧ W.rangeAt d 65 L ∧
    (∀ t, t < 16 → P.toArray[t]? = some (.int .i64 (prioQ s.q t : Int))) ∧ (∀ t, t < 16 → R.toArray[t]? = some (.bool (s.rob t))) ∧ (∀ t, t < 16 → L.toArray[t]? = some (.int .i64 (s.lf t))) := by
  obtain ⟨cs, A, c, hb, hC, _⟩ := h
  have hz := hC.size
  have ex : ∀ (o k : Nat) (v : Value), k < 16 → cs[o + k]? = some v → (cs.extract o (o + 16)).toList.toArray[k]? = some v := fun o k v hk h => by
    have hlt := (Array.getElem?_eq_some_iff.1 h).1
    rw [Array.toArray_toList, Array.getElem?_extract, if_pos (by omega)]
    exact h
  exact ⟨_, _, _, ⟨by simp [hz], by simp [hz], by simp [hz]⟩, World.rangeAt_of_block hb 33 16, World.rangeAt_of_block hb 49 16, World.rangeAt_of_block hb 65 16, fun t ht => ex 33 t _ ht (hC.pr t ht), fun t ht => ex 49 t _ ht (hC.rb t ht), fun t ht => ex 65 t _ ht (hC.lf t ht)⟩
theorem size50 : (Try.prog.info? 50).map (·.size) = some 16 := by kernel_rfl
theorem size51 : (Try.prog.info? 51).map (·.size) = some 16 := by kernel_rfl
set_option maxHeartbeats 2000000 in
theorem copies_bad (Q : Int) (A A2 : Option Addr) (n c n2 c2 : Nat) (h : ¬ (1 ≤ Q ∧ Q ≤ 100 ∧ n ≤ 100 ∧ n2 ≤ 100)) (w : World) : Calls Try.prog 7 #[.int .i64 Q, .slice A n c, .slice A2 n2 c2] w fun e w' => e = .returned (.bool true) ∧ Only [] w w' := by
  by_cases h1 : Q < 1
  · have g1 : decide (Q < 1) = true := decide_eq_true h1
    clear h h1
    go_enter Try.func7, Try.ntmps7
    go_wp2_with (go_at_call 9; refine (known_any _).mono ?_; rintro e w2 ⟨rfl, o2⟩)
    go_ret
    exact ⟨rfl, o2⟩
  have g1 : decide (Q < 1) = false := decide_eq_false h1
  by_cases h2 : 100 < Q
  · have g2 : decide (100 < Q) = true := decide_eq_true h2
    clear h h1 h2
    go_enter Try.func7, Try.ntmps7
    go_wp2_with (go_at_call 9; refine (known_any _).mono ?_; rintro e w2 ⟨rfl, o2⟩)
    go_ret
    exact ⟨rfl, o2⟩
  have g2 : decide (100 < Q) = false := decide_eq_false h2
  by_cases h3 : 100 < n
  · have g3 : decide (100 < (n : Int)) = true := decide_eq_true (by omega)
    clear h h1 h2 h3
    go_enter Try.func7, Try.ntmps7
    go_wp2_with (go_at_call 9; refine (known_any _).mono ?_; rintro e w2 ⟨rfl, o2⟩)
    go_ret
    exact ⟨rfl, o2⟩
  have g3 : decide (100 < (n : Int)) = false := decide_eq_false (by omega)
  have g4 : decide (100 < (n2 : Int)) = true := decide_eq_true (by omega)
  clear h h1 h2 h3
  go_enter Try.func7, Try.ntmps7
  go_wp2_with (go_at_call 9; refine (known_any _).mono ?_; rintro e w2 ⟨rfl, o2⟩)
  go_ret
  exact ⟨rfl, o2⟩
set_option maxHeartbeats 16000000 in
theorem copies_in (Q : Int) (A A2 : Option Addr) (n c n2 c2 : Nat) (q1 : 1 ≤ Q) (q2 : Q ≤ 100) (hn : n ≤ 100) (hn2 : n2 ≤ 100) (w : World) (hst : StepsAt w A n) (hst2 : StepsAt w A2 n2) : Calls Try.prog 7 #[.int .i64 Q, .slice A n c, .slice A2 n2 c2] w fun e w' => e = .returned (.bool true) ∧ Only [] w w' := by
  have NW := hide (fun V => tnew_good Q q1 q2 V)
  have ND := hide (fun V => dnew_good Q q1 q2 V)
  unfold ptr at NW
  have g1 : decide (Q < 1) = false := decide_eq_false (by omega)
  have g2 : decide (100 < Q) = false := decide_eq_false (by omega)
  have g3 : decide (100 < (n : Int)) = false := decide_eq_false (by omega)
  have g4 : decide (100 < (n2 : Int)) = false := decide_eq_false (by omega)
  have HST := hide hst
  have HST2 := hide hst2
  clear hst hst2
  go_enter Try.func7, Try.ntmps7
  go_wp2_with (first
    | (go_at_call 20; (with_reducible refine (ND.out w3).mono ?_); rintro e w4 ⟨q, rfl, dq, hq, o4⟩)
    | (go_at_call 20; (with_reducible refine (ND.out w2).mono ?_); rintro e w3 ⟨r, rfl, dr, hr, o3⟩)
    | (go_at_call 10; (with_reducible refine (NW.out w1).mono ?_); rintro e w2 ⟨o, k, he, ro, ho, hk, o2⟩; unfold newE at he; subst he)
    | (go_at_call 10; (with_reducible refine (NW.out w).mono ?_); rintro e w1 ⟨x, g, he, rx, hx, hg, o1⟩; unfold newE at he; subst he))
  have F0 := four_start rx ro dr dq hx hg ho hk hr hq o1 o2 o3 o4
  clear rx ro dr dq hx hg ho hk hr hq o1 o2 o3 o4 g1 g2 g3 g4
  go_loopw [13] (fun vi wr => ∃ (i : Nat) (s : SS), i ≤ n ∧ vi = .int .i64 i ∧ LfOk s ∧ Four w wr x g o k r q Q s s (30 * i)) (fun vi _ => n - (intOf vi).toNat)
  case atStart => exact ⟨0, s0, Nat.zero_le _, rfl, fun t => ⟨Int.le_refl _, by show (0 : Int) ≤ 1000; decide⟩, by simpa using F0⟩
  case round =>
    clear F0
    obtain ⟨i, s, hi, rfl, hl, hF⟩ := hrel
    by_cases hlt : i < n
    · have j1 : (i : Int) < (n : Int) := by omega
      have j0 : (0 : Int) ≤ (i : Int) := by omega
      obtain ⟨a, kd, t, pp, rb, rfl, k0, k1, k2, k3⟩ := HST.out i hlt
      have K0 := hide k0
      have K1 := hide k1
      have K2 := hide k2
      have K3 := hide k3
      have v0 := hF.ow.keep0 k0
      have v1 := hF.ow.keep0 k1
      have v2 := hF.ow.keep0 k2
      have v3 := hF.ow.keep0 k3
      have HL := hide (hl.step q1 q2 kd t pp rb)
      have D1 := hide (does_any x g r Q s (30 * i) (by omega) t pp rb wr hF.bx hF.dr kd hl)
      obtain ⟨s', hs'⟩ : ∃ s', stepS Q s kd t pp rb = s' := ⟨_, rfl⟩
      have D2 := hide (fun V (h : Four w V x g o k r q Q s' s (30 * i + 9)) => does_any o k q Q s (30 * i + 9) (by omega) t pp rb V h.bo h.dq kd hl)
      rw [hs'] at D1 D2 HL
      have HF := hide hF
      clear hl hs' hF k0 k1 k2 k3
      go_wp2_with (first
        | (go_at_call 21; (with_reducible refine (D2.out _ HFA.out).mono ?_); rintro e w3 ⟨rfl, b3, d3, o3⟩; have HFB := hide (HFA.out.second b3 d3 o3); clear b3 d3 o3)
        | (go_at_call 21; (with_reducible refine D1.out.mono ?_); rintro e w2 ⟨rfl, b2, d2, o2⟩; have HFA := hide (HF.out.first b2 d2 o2); have u0 := HFA.out.ow.keep0 K0.out; have u1 := HFA.out.ow.keep0 K1.out; have u2 := HFA.out.ow.keep0 K2.out; have u3 := HFA.out.ow.keep0 K3.out; clear b2 d2 o2))
      go_roundw
      case rel => exact ⟨i + 1, s', by omega, by go_num, HL.out, HFB.out.mono (by omega)⟩
      case measure => simp [intOf]; omega
    · obtain rfl : i = n := by omega
      have CP := hide (tcopy_any x g Q s (30 * i) wr hF.bx)
      have SS1 := hide (decide_eq_true (show SameS Q Q s s from ⟨fun _ _ _ => rfl, rfl, fun _ _ => ⟨rfl, rfl⟩⟩))
      have HF := hide hF
      have HL := hide hl
      clear hF hl
      go_wp2_with (first
        | (go_at_call 23; (with_reducible refine CP.out.mono ?_); rintro e w5 ⟨cc, h, rfl, b5, hc5, hh5, o5⟩; have F5 := hide (HF.out.copy b5 hc5 hh5 o5); clear b5 hc5 hh5 o5)
        | (go_at_call 24; (with_reducible refine (same_any x g cc h Q Q s s _ _ w5 F5.out.bx F5.out.bc true SS1.out).mono ?_); rintro e w6 ⟨rfl, o6⟩; have F6 := hide (F5.out.only o6); clear o6)
        | (go_at_call 24; (with_reducible refine (same_any x g o k Q Q s s _ _ w6 F6.out.bx F6.out.bo true SS1.out).mono ?_); rintro e w7 ⟨rfl, o7⟩; have F7 := hide (F6.out.only o7); clear o7))
      clear CP HST
      go_loopw [15] (fun vi wr => ∃ (j : Nat) (s2 : SS), j ≤ n2 ∧ vi = .int .i64 j ∧ LfOk s2 ∧ Five w wr x g o k r q cc h Q s s2 (30 * i) (30 * i + 30 * j)) (fun vi _ => n2 - (intOf vi).toNat)
      case atStart => exact ⟨0, s, Nat.zero_le _, rfl, HL.out, by simpa using F7.out⟩
      case round =>
        obtain ⟨j, s2, hj, rfl, hl, hF⟩ := hrel
        by_cases hlt2 : j < n2
        · have j1 : (j : Int) < (n2 : Int) := by omega
          have j0 : (0 : Int) ≤ (j : Int) := by omega
          obtain ⟨a, kd, t, pp, rb, rfl, k0, k1, k2, k3⟩ := HST2.out j hlt2
          have v0 := hF.ow.keep0 k0
          have v1 := hF.ow.keep0 k1
          have v2 := hF.ow.keep0 k2
          have v3 := hF.ow.keep0 k3
          have HL2 := hide (hl.step q1 q2 kd t pp rb)
          have D1 := hide (does_any cc h q Q s2 (30 * i + 30 * j) (by omega) t pp rb wr hF.bc hF.dq kd hl)
          obtain ⟨s', hs'⟩ : ∃ s', stepS Q s2 kd t pp rb = s' := ⟨_, rfl⟩
          rw [hs'] at D1 HL2
          have HF2 := hide hF
          clear hl hs' hF k0 k1 k2 k3
          go_wp2_with (first
            | (go_at_call 21; (with_reducible refine D1.out.mono ?_); rintro e w8 ⟨rfl, b2, d2, o2⟩; have HFA := hide (HF2.out.step b2 d2 o2); clear b2 d2 o2))
          go_roundw
          case rel => exact ⟨j + 1, s', by omega, by go_num, HL2.out, HFA.out.monoB (by omega)⟩
          case measure => simp [intOf]; omega
        · obtain rfl : j = n2 := by omega
          obtain ⟨P1, R1, L1, ⟨zp1, zr1, zl1⟩, rp1, rr1, rl1, ap1, ar1, al1⟩ := hF.dr.rows
          obtain ⟨P2, R2, L2, ⟨zp2, zr2, zl2⟩, rp2, rr2, rl2, ap2, ar2, al2⟩ := hF.dq.rows
          have u50 := Try.underlying50
          have u51 := Try.underlying51
          have sp1 : (Try.prog.info? 50).map (·.size) = some P1.length := by rw [zp1]; exact size50
          have sp2 : (Try.prog.info? 50).map (·.size) = some P2.length := by rw [zp2]; exact size50
          have sr1 : (Try.prog.info? 51).map (·.size) = some R1.length := by rw [zr1]; exact size51
          have sr2 : (Try.prog.info? 51).map (·.size) = some R2.length := by rw [zr2]; exact size51
          have sl1 : (Try.prog.info? 50).map (·.size) = some L1.length := by rw [zl1]; exact size50
          have sl2 : (Try.prog.info? 50).map (·.size) = some L2.length := by rw [zl2]; exact size50
          have eP := fun W => (show (Op.equalIn 10000 50 (.agg P1.toArray) (.agg P2.toArray)).run Try.prog W = .ok (prA s s2) W from eq50 P1.toArray P2.toArray _ _ ap1 ap2 W)
          have eR := fun W => (show (Op.equalIn 10000 51 (.agg R1.toArray) (.agg R2.toArray)).run Try.prog W = .ok (rbA s s2) W from eq51 R1.toArray R2.toArray _ _ ar1 ar2 W)
          have eL := fun W => (show (Op.equalIn 10000 50 (.agg L1.toArray) (.agg L2.toArray)).run Try.prog W = .ok (lfA s s2) W from eq50 L1.toArray L2.toArray _ _ al1 al2 W)
          have HF2 := hide hF
          have HL2 := hide hl
          have HAL := hide (alike_end Q s s2 hF.bx.facts.1 hF.bc.facts.1)
          clear ap1 ar1 al1 ap2 ar2 al2 zp1 zr1 zl1 zp2 zr2 zl2 hF hl
          obtain ⟨bp, hbp⟩ : ∃ b, prA s s2 = b := ⟨_, rfl⟩
          obtain ⟨br, hbr⟩ : ∃ b, rbA s s2 = b := ⟨_, rfl⟩
          obtain ⟨bl, hbl⟩ : ∃ b, lfA s s2 = b := ⟨_, rfl⟩
          rw [hbp] at eP HAL
          rw [hbr] at eR HAL
          rw [hbl] at eL HAL
          clear hbp hbr hbl
          go_wp2_with fail
          cases bp with
          | false =>
            refine wp_region_held_drew (S := (fun V => V.rangeAt r 33 P1 ∧ V.rangeAt q 33 P2 ∧ V.rangeAt r 49 R1 ∧ V.rangeAt q 49 R2 ∧ V.rangeAt r 65 L1 ∧ V.rangeAt q 65 L2)) (by kernel_rfl) ?_ (fun hHeld => ?_)
            · exact ⟨rp1, rp2, rr1, rr2, rl1, rl2⟩
            refine wpAnyH_take (i := 0) (oi := ⟨some 95, _, _, _, _, _⟩) (v := ?v0) rfl (by kernel_rfl) (by kernel_rfl) (by kernel_rfl) (fun _ _ _ h => h) (Or.inl ⟨by rfl, ?hy0⟩) (by assumption) ?rest0
            case hy0 => (intro V hSw; (try dsimp only at hSw); obtain ⟨hs1, hs2, hs3, hs4, hs5, hs6⟩ := hSw; go_simp; first | done | (with_reducible rfl))
            try simp only [Act.put, List.setIfInBounds_toArray, List.set_cons_zero, List.set_cons_succ]
            refine wpAnyH_take (i := 1) (oi := ⟨some 96, _, _, _, _, _⟩) (v := ?v1) rfl (by kernel_rfl) (by kernel_rfl) (by kernel_rfl) (fun _ _ _ h => h) (Or.inl ⟨by rfl, ?hy1⟩) (by assumption) ?rest1
            case hy1 => (intro V hSw; (try dsimp only at hSw); obtain ⟨hs1, hs2, hs3, hs4, hs5, hs6⟩ := hSw; go_simp; first | done | (with_reducible rfl))
            try simp only [Act.put, List.setIfInBounds_toArray, List.set_cons_zero, List.set_cons_succ]
            refine wpAnyH_take (i := 2) (oi := ⟨some 97, _, _, _, _, _⟩) (v := ?v2) rfl (by kernel_rfl) (by kernel_rfl) (by kernel_rfl) (fun _ _ _ h => h) (Or.inl ⟨by rfl, ?hy2⟩) (by assumption) ?rest2
            case hy2 => (intro V hSw; (try dsimp only at hSw); obtain ⟨hs1, hs2, hs3, hs4, hs5, hs6⟩ := hSw; go_simp; first | done | (with_reducible rfl))
            try simp only [Act.put, List.setIfInBounds_toArray, List.set_cons_zero, List.set_cons_succ]
            refine' wpAnyH_take (i := 3) (oi := ⟨some 98, _, _, _, _, _⟩) (v := _) rfl (by kernel_rfl) (by kernel_rfl) (by kernel_rfl) (fun _ _ _ h => h) (yieldsIf_load_mid (by rfl) _ _ rfl _ _ rfl _ _ ?hS3 u50 rfl sp1) (by assumption) ?rest3
            case hS3 => exact fun V hSw => hSw.1
            try simp only [Act.put, List.setIfInBounds_toArray, List.set_cons_zero, List.set_cons_succ]
            refine wpAnyH_take (i := 4) (oi := ⟨some 99, _, _, _, _, _⟩) (v := ?v4) rfl (by kernel_rfl) (by kernel_rfl) (by kernel_rfl) (fun _ _ _ h => h) (Or.inl ⟨by rfl, ?hy4⟩) (by assumption) ?rest4
            case hy4 => (intro V hSw; (try dsimp only at hSw); obtain ⟨hs1, hs2, hs3, hs4, hs5, hs6⟩ := hSw; go_simp; first | done | (with_reducible rfl))
            try simp only [Act.put, List.setIfInBounds_toArray, List.set_cons_zero, List.set_cons_succ]
            refine wpAnyH_take (i := 5) (oi := ⟨some 100, _, _, _, _, _⟩) (v := ?v5) rfl (by kernel_rfl) (by kernel_rfl) (by kernel_rfl) (fun _ _ _ h => h) (Or.inl ⟨by rfl, ?hy5⟩) (by assumption) ?rest5
            case hy5 => (intro V hSw; (try dsimp only at hSw); obtain ⟨hs1, hs2, hs3, hs4, hs5, hs6⟩ := hSw; go_simp; first | done | (with_reducible rfl))
            try simp only [Act.put, List.setIfInBounds_toArray, List.set_cons_zero, List.set_cons_succ]
            refine wpAnyH_take (i := 6) (oi := ⟨some 101, _, _, _, _, _⟩) (v := ?v6) rfl (by kernel_rfl) (by kernel_rfl) (by kernel_rfl) (fun _ _ _ h => h) (Or.inl ⟨by rfl, ?hy6⟩) (by assumption) ?rest6
            case hy6 => (intro V hSw; (try dsimp only at hSw); obtain ⟨hs1, hs2, hs3, hs4, hs5, hs6⟩ := hSw; go_simp; first | done | (with_reducible rfl))
            try simp only [Act.put, List.setIfInBounds_toArray, List.set_cons_zero, List.set_cons_succ]
            refine' wpAnyH_take (i := 7) (oi := ⟨some 102, _, _, _, _, _⟩) (v := _) rfl (by kernel_rfl) (by kernel_rfl) (by kernel_rfl) (fun _ _ _ h => h) (yieldsIf_load_mid (by rfl) _ _ rfl _ _ rfl _ _ ?hS7 u50 rfl sp2) (by assumption) ?rest7
            case hS7 => exact fun V hSw => hSw.2.1
            try simp only [Act.put, List.setIfInBounds_toArray, List.set_cons_zero, List.set_cons_succ]
            refine wpAnyH_take (i := 8) (oi := ⟨some 103, _, _, _, _, _⟩) (v := ?v8) rfl (by kernel_rfl) (by kernel_rfl) (by kernel_rfl) (fun _ _ _ h => h) (Or.inl ⟨by rfl, ?hy8⟩) (by assumption) ?rest8
            case hy8 => (intro V hSw; (try dsimp only at hSw); obtain ⟨hs1, hs2, hs3, hs4, hs5, hs6⟩ := hSw; go_simp; first | done | (with_reducible rfl))
            try simp only [Act.put, List.setIfInBounds_toArray, List.set_cons_zero, List.set_cons_succ]
            refine wpAnyH_take (i := 9) (oi := ⟨some 104, _, _, _, _, _⟩) (v := ?v9) rfl (by kernel_rfl) (by kernel_rfl) (by kernel_rfl) (fun _ _ _ h => h) (Or.inl ⟨by rfl, ?hy9⟩) (by assumption) ?rest9
            case hy9 => (intro V hSw; (try dsimp only at hSw); obtain ⟨hs1, hs2, hs3, hs4, hs5, hs6⟩ := hSw; go_simp; first | done | (with_reducible rfl))
            try simp only [Act.put, List.setIfInBounds_toArray, List.set_cons_zero, List.set_cons_succ]
            refine wpAnyH_take (i := 10) (oi := ⟨some 105, _, _, _, _, _⟩) (v := undef) rfl (by kernel_rfl) (by kernel_rfl) (by kernel_rfl) (fun _ _ _ h => h) (Or.inr ⟨by rfl, rfl⟩) (by assumption) ?rest10
            try simp only [Act.put, List.setIfInBounds_toArray, List.set_cons_zero, List.set_cons_succ]
            refine wpAnyH_take (i := 11) (oi := ⟨some 106, _, _, _, _, _⟩) (v := undef) rfl (by kernel_rfl) (by kernel_rfl) (by kernel_rfl) (fun _ _ _ h => h) (Or.inr ⟨by rfl, rfl⟩) (by assumption) ?rest11
            try simp only [Act.put, List.setIfInBounds_toArray, List.set_cons_zero, List.set_cons_succ]
            refine wpAnyH_take (i := 12) (oi := ⟨some 107, _, _, _, _, _⟩) (v := undef) rfl (by kernel_rfl) (by kernel_rfl) (by kernel_rfl) (fun _ _ _ h => h) (Or.inr ⟨by rfl, rfl⟩) (by assumption) ?rest12
            try simp only [Act.put, List.setIfInBounds_toArray, List.set_cons_zero, List.set_cons_succ]
            refine wpAnyH_take (i := 13) (oi := ⟨some 108, _, _, _, _, _⟩) (v := undef) rfl (by kernel_rfl) (by kernel_rfl) (by kernel_rfl) (fun _ _ _ h => h) (Or.inr ⟨by rfl, rfl⟩) (by assumption) ?rest13
            try simp only [Act.put, List.setIfInBounds_toArray, List.set_cons_zero, List.set_cons_succ]
            refine wpAnyH_take (i := 14) (oi := ⟨some 109, _, _, _, _, _⟩) (v := undef) rfl (by kernel_rfl) (by kernel_rfl) (by kernel_rfl) (fun _ _ _ h => h) (Or.inr ⟨by rfl, rfl⟩) (by assumption) ?rest14
            try simp only [Act.put, List.setIfInBounds_toArray, List.set_cons_zero, List.set_cons_succ]
            refine wpAnyH_take (i := 15) (oi := ⟨some 110, _, _, _, _, _⟩) (v := undef) rfl (by kernel_rfl) (by kernel_rfl) (by kernel_rfl) (fun _ _ _ h => h) (Or.inr ⟨by rfl, rfl⟩) (by assumption) ?rest15
            try simp only [Act.put, List.setIfInBounds_toArray, List.set_cons_zero, List.set_cons_succ]
            refine wpAnyH_take (i := 16) (oi := ⟨some 111, _, _, _, _, _⟩) (v := undef) rfl (by kernel_rfl) (by kernel_rfl) (by kernel_rfl) (fun _ _ _ h => h) (Or.inr ⟨by rfl, rfl⟩) (by assumption) ?rest16
            try simp only [Act.put, List.setIfInBounds_toArray, List.set_cons_zero, List.set_cons_succ]
            refine wpAnyH_take (i := 17) (oi := ⟨some 112, _, _, _, _, _⟩) (v := undef) rfl (by kernel_rfl) (by kernel_rfl) (by kernel_rfl) (fun _ _ _ h => h) (Or.inr ⟨by rfl, rfl⟩) (by assumption) ?rest17
            try simp only [Act.put, List.setIfInBounds_toArray, List.set_cons_zero, List.set_cons_succ]
            refine wpAnyH_take (i := 18) (oi := ⟨some 113, _, _, _, _, _⟩) (v := undef) rfl (by kernel_rfl) (by kernel_rfl) (by kernel_rfl) (fun _ _ _ h => h) (Or.inr ⟨by rfl, rfl⟩) (by assumption) ?rest18
            try simp only [Act.put, List.setIfInBounds_toArray, List.set_cons_zero, List.set_cons_succ]
            refine wpAnyH_take (i := 19) (oi := ⟨some 114, _, _, _, _, _⟩) (v := ?v19) rfl (by kernel_rfl) (by kernel_rfl) (by kernel_rfl) (fun _ _ _ h => h) (Or.inl ⟨by rfl, ?hy19⟩) (by assumption) ?rest19
            case hy19 => (intro V hSw; (try dsimp only at hSw); obtain ⟨hs1, hs2, hs3, hs4, hs5, hs6⟩ := hSw; go_simp; first | done | (with_reducible rfl))
            try simp only [Act.put, List.setIfInBounds_toArray, List.set_cons_zero, List.set_cons_succ]
            refine wpAnyH_take (i := 20) (oi := ⟨some 115, _, _, _, _, _⟩) (v := ?v20) rfl (by kernel_rfl) (by kernel_rfl) (by kernel_rfl) (fun _ _ _ h => h) (Or.inl ⟨by rfl, ?hy20⟩) (by assumption) ?rest20
            case hy20 => (intro V hSw; (try dsimp only at hSw); obtain ⟨hs1, hs2, hs3, hs4, hs5, hs6⟩ := hSw; go_simp; first | done | (with_reducible rfl))
            try simp only [Act.put, List.setIfInBounds_toArray, List.set_cons_zero, List.set_cons_succ]
            refine wpAnyH_take (i := 21) (oi := ⟨some 116, _, _, _, _, _⟩) (v := undef) rfl (by kernel_rfl) (by kernel_rfl) (by kernel_rfl) (fun _ _ _ h => h) (Or.inr ⟨by rfl, rfl⟩) (by assumption) ?rest21
            try simp only [Act.put, List.setIfInBounds_toArray, List.set_cons_zero, List.set_cons_succ]
            refine wpAnyH_take (i := 22) (oi := ⟨some 117, _, _, _, _, _⟩) (v := undef) rfl (by kernel_rfl) (by kernel_rfl) (by kernel_rfl) (fun _ _ _ h => h) (Or.inr ⟨by rfl, rfl⟩) (by assumption) ?rest22
            try simp only [Act.put, List.setIfInBounds_toArray, List.set_cons_zero, List.set_cons_succ]
            refine wpAnyH_take (i := 23) (oi := ⟨some 118, _, _, _, _, _⟩) (v := undef) rfl (by kernel_rfl) (by kernel_rfl) (by kernel_rfl) (fun _ _ _ h => h) (Or.inr ⟨by rfl, rfl⟩) (by assumption) ?rest23
            try simp only [Act.put, List.setIfInBounds_toArray, List.set_cons_zero, List.set_cons_succ]
            refine wpAnyH_take (i := 24) (oi := ⟨some 119, _, _, _, _, _⟩) (v := undef) rfl (by kernel_rfl) (by kernel_rfl) (by kernel_rfl) (fun _ _ _ h => h) (Or.inr ⟨by rfl, rfl⟩) (by assumption) ?rest24
            try simp only [Act.put, List.setIfInBounds_toArray, List.set_cons_zero, List.set_cons_succ]
            refine wpAnyH_take (i := 25) (oi := ⟨some 120, _, _, _, _, _⟩) (v := undef) rfl (by kernel_rfl) (by kernel_rfl) (by kernel_rfl) (fun _ _ _ h => h) (Or.inr ⟨by rfl, rfl⟩) (by assumption) ?rest25
            try simp only [Act.put, List.setIfInBounds_toArray, List.set_cons_zero, List.set_cons_succ]
            refine wpAnyH_take (i := 26) (oi := ⟨some 121, _, _, _, _, _⟩) (v := undef) rfl (by kernel_rfl) (by kernel_rfl) (by kernel_rfl) (fun _ _ _ h => h) (Or.inr ⟨by rfl, rfl⟩) (by assumption) ?rest26
            try simp only [Act.put, List.setIfInBounds_toArray, List.set_cons_zero, List.set_cons_succ]
            refine wpAnyH_take (i := 27) (oi := ⟨some 122, _, _, _, _, _⟩) (v := undef) rfl (by kernel_rfl) (by kernel_rfl) (by kernel_rfl) (fun _ _ _ h => h) (Or.inr ⟨by rfl, rfl⟩) (by assumption) ?rest27
            try simp only [Act.put, List.setIfInBounds_toArray, List.set_cons_zero, List.set_cons_succ]
            refine wpAnyH_take (i := 28) (oi := ⟨some 123, _, _, _, _, _⟩) (v := undef) rfl (by kernel_rfl) (by kernel_rfl) (by kernel_rfl) (fun _ _ _ h => h) (Or.inr ⟨by rfl, rfl⟩) (by assumption) ?rest28
            try simp only [Act.put, List.setIfInBounds_toArray, List.set_cons_zero, List.set_cons_succ]
            refine wpAnyH_take (i := 29) (oi := ⟨some 124, _, _, _, _, _⟩) (v := undef) rfl (by kernel_rfl) (by kernel_rfl) (by kernel_rfl) (fun _ _ _ h => h) (Or.inr ⟨by rfl, rfl⟩) (by assumption) ?rest29
            try simp only [Act.put, List.setIfInBounds_toArray, List.set_cons_zero, List.set_cons_succ]
            refine wpAnyH_take (i := 30) (oi := ⟨some 125, _, _, _, _, _⟩) (v := ?v30) rfl (by kernel_rfl) (by kernel_rfl) (by kernel_rfl) (fun _ _ _ h => h) (Or.inl ⟨by rfl, ?hy30⟩) (by assumption) ?rest30
            case hy30 => (intro V hSw; (try dsimp only at hSw); obtain ⟨hs1, hs2, hs3, hs4, hs5, hs6⟩ := hSw; go_simp; first | done | (with_reducible rfl))
            try simp only [Act.put, List.setIfInBounds_toArray, List.set_cons_zero, List.set_cons_succ]
            refine wpAnyH_take (i := 31) (oi := ⟨some 16, _, _, _, _, _⟩) (v := ?v31) rfl (by kernel_rfl) (by kernel_rfl) (by kernel_rfl) (fun _ _ _ h => h) (Or.inl ⟨by rfl, ?hy31⟩) (by assumption) ?rest31
            case hy31 => (intro V hSw; (try dsimp only at hSw); obtain ⟨hs1, hs2, hs3, hs4, hs5, hs6⟩ := hSw; go_simp; first | done | (with_reducible rfl))
            try simp only [Act.put, List.setIfInBounds_toArray, List.set_cons_zero, List.set_cons_succ]
            refine wpAnyH_done (by kernel_rfl) ?_ _
            clear rp1 rp2 rr1 rr2 rl1 rl2 sp1 sp2 sr1 sr2 sl1 sl2 eP eR eL hHeld
            go_wp2_with fail
            go_loopw [16, 17] (fun vb vp wz => ∃ (p : Nat) (b : Bool), 1 ≤ p ∧ p ≤ 32 ∧ vp = .int .i64 p ∧ vb = .bool b ∧ (false && eqTo s s2 p) = b ∧ Only [] wr wz) (fun _ vp _ => 32 - (intOf vp).toNat)
            case atStart => exact ⟨1, _, by omega, by omega, rfl, rfl, by rw [eqTo_one]; simp, (Only.refl [] wr).drew⟩
            case round =>
              rename_i wz
              obtain ⟨p, b, p1, p2, rfl, rfl, hb, hO⟩ := hrel
              have HO := hide hO
              have HB := hide hb
              have HF3 := hide (HF2.out.only hO)
              clear hO hb
              by_cases hlt3 : p < 32
              · have d0 : decide (p ≤ 31) = true := decide_eq_true (by omega)
                have HE := hide (eqTo_step s s2 p p1)
                cases b with
                | false =>
                  go_wp2_with (go_quiet (fail))
                  go_roundw
                  case rel => exact ⟨p + 1, false, by omega, by omega, by go_num, rfl, by rw [HE.out, ← Bool.and_assoc, HB.out]; rfl, HO.out.drewN _⟩
                  case measure => simp [intOf]; omega
                | true => exact absurd HB.out (by simp)
              · obtain rfl : p = 32 := by omega
                have SS2 := hide (show decide (SameS Q Q s2 s) = b by rw [← HAL.out, ← HB.out]; simp)
                go_wp2_with (first
                  | (go_at_call 24; (with_reducible refine (same_any x g o k Q Q s s _ _ _ HF3.out.bx HF3.out.bo true SS1.out).mono ?_); rintro e y1 ⟨rfl, z1⟩; have G1 := hide (HF3.out.only z1); clear z1)
                  | (go_at_call 24; (with_reducible refine (same_any cc h x g Q Q s2 s _ _ _ G1.out.bc G1.out.bx b SS2.out).mono ?_); rintro e y2 ⟨rfl, z2⟩; have G2 := hide (G1.out.only z2); clear z2)
                  | (go_at_call 22; (with_reducible refine (stands_any x g r Q s (30 * i) (by omega) _ G2.out.bx G2.out.dr).mono ?_); rintro e y3 ⟨rfl, -, -, z3⟩; have G3 := hide (only_in G2.out.ow z3 G2.out.ordS); clear z3)
                  | (go_at_call 9; refine (known_any _).mono ?_; rintro e y4 ⟨rfl, z4⟩))
                go_ret
                exact ⟨rfl, G3.out.trans0 z4⟩
          | true =>
            cases br with
            | false =>
              refine wp_region_held_drew (S := (fun V => V.rangeAt r 33 P1 ∧ V.rangeAt q 33 P2 ∧ V.rangeAt r 49 R1 ∧ V.rangeAt q 49 R2 ∧ V.rangeAt r 65 L1 ∧ V.rangeAt q 65 L2)) (by kernel_rfl) ?_ (fun hHeld => ?_)
              · exact ⟨rp1, rp2, rr1, rr2, rl1, rl2⟩
              refine wpAnyH_take (i := 0) (oi := ⟨some 95, _, _, _, _, _⟩) (v := ?v100) rfl (by kernel_rfl) (by kernel_rfl) (by kernel_rfl) (fun _ _ _ h => h) (Or.inl ⟨by rfl, ?hy100⟩) (by assumption) ?rest100
              case hy100 => (intro V hSw; (try dsimp only at hSw); obtain ⟨hs1, hs2, hs3, hs4, hs5, hs6⟩ := hSw; go_simp; first | done | (with_reducible rfl))
              try simp only [Act.put, List.setIfInBounds_toArray, List.set_cons_zero, List.set_cons_succ]
              refine wpAnyH_take (i := 1) (oi := ⟨some 96, _, _, _, _, _⟩) (v := ?v101) rfl (by kernel_rfl) (by kernel_rfl) (by kernel_rfl) (fun _ _ _ h => h) (Or.inl ⟨by rfl, ?hy101⟩) (by assumption) ?rest101
              case hy101 => (intro V hSw; (try dsimp only at hSw); obtain ⟨hs1, hs2, hs3, hs4, hs5, hs6⟩ := hSw; go_simp; first | done | (with_reducible rfl))
              try simp only [Act.put, List.setIfInBounds_toArray, List.set_cons_zero, List.set_cons_succ]
              refine wpAnyH_take (i := 2) (oi := ⟨some 97, _, _, _, _, _⟩) (v := ?v102) rfl (by kernel_rfl) (by kernel_rfl) (by kernel_rfl) (fun _ _ _ h => h) (Or.inl ⟨by rfl, ?hy102⟩) (by assumption) ?rest102
              case hy102 => (intro V hSw; (try dsimp only at hSw); obtain ⟨hs1, hs2, hs3, hs4, hs5, hs6⟩ := hSw; go_simp; first | done | (with_reducible rfl))
              try simp only [Act.put, List.setIfInBounds_toArray, List.set_cons_zero, List.set_cons_succ]
              refine' wpAnyH_take (i := 3) (oi := ⟨some 98, _, _, _, _, _⟩) (v := _) rfl (by kernel_rfl) (by kernel_rfl) (by kernel_rfl) (fun _ _ _ h => h) (yieldsIf_load_mid (by rfl) _ _ rfl _ _ rfl _ _ ?hS103 u50 rfl sp1) (by assumption) ?rest103
              case hS103 => exact fun V hSw => hSw.1
              try simp only [Act.put, List.setIfInBounds_toArray, List.set_cons_zero, List.set_cons_succ]
              refine wpAnyH_take (i := 4) (oi := ⟨some 99, _, _, _, _, _⟩) (v := ?v104) rfl (by kernel_rfl) (by kernel_rfl) (by kernel_rfl) (fun _ _ _ h => h) (Or.inl ⟨by rfl, ?hy104⟩) (by assumption) ?rest104
              case hy104 => (intro V hSw; (try dsimp only at hSw); obtain ⟨hs1, hs2, hs3, hs4, hs5, hs6⟩ := hSw; go_simp; first | done | (with_reducible rfl))
              try simp only [Act.put, List.setIfInBounds_toArray, List.set_cons_zero, List.set_cons_succ]
              refine wpAnyH_take (i := 5) (oi := ⟨some 100, _, _, _, _, _⟩) (v := ?v105) rfl (by kernel_rfl) (by kernel_rfl) (by kernel_rfl) (fun _ _ _ h => h) (Or.inl ⟨by rfl, ?hy105⟩) (by assumption) ?rest105
              case hy105 => (intro V hSw; (try dsimp only at hSw); obtain ⟨hs1, hs2, hs3, hs4, hs5, hs6⟩ := hSw; go_simp; first | done | (with_reducible rfl))
              try simp only [Act.put, List.setIfInBounds_toArray, List.set_cons_zero, List.set_cons_succ]
              refine wpAnyH_take (i := 6) (oi := ⟨some 101, _, _, _, _, _⟩) (v := ?v106) rfl (by kernel_rfl) (by kernel_rfl) (by kernel_rfl) (fun _ _ _ h => h) (Or.inl ⟨by rfl, ?hy106⟩) (by assumption) ?rest106
              case hy106 => (intro V hSw; (try dsimp only at hSw); obtain ⟨hs1, hs2, hs3, hs4, hs5, hs6⟩ := hSw; go_simp; first | done | (with_reducible rfl))
              try simp only [Act.put, List.setIfInBounds_toArray, List.set_cons_zero, List.set_cons_succ]
              refine' wpAnyH_take (i := 7) (oi := ⟨some 102, _, _, _, _, _⟩) (v := _) rfl (by kernel_rfl) (by kernel_rfl) (by kernel_rfl) (fun _ _ _ h => h) (yieldsIf_load_mid (by rfl) _ _ rfl _ _ rfl _ _ ?hS107 u50 rfl sp2) (by assumption) ?rest107
              case hS107 => exact fun V hSw => hSw.2.1
              try simp only [Act.put, List.setIfInBounds_toArray, List.set_cons_zero, List.set_cons_succ]
              refine wpAnyH_take (i := 8) (oi := ⟨some 103, _, _, _, _, _⟩) (v := ?v108) rfl (by kernel_rfl) (by kernel_rfl) (by kernel_rfl) (fun _ _ _ h => h) (Or.inl ⟨by rfl, ?hy108⟩) (by assumption) ?rest108
              case hy108 => (intro V hSw; (try dsimp only at hSw); obtain ⟨hs1, hs2, hs3, hs4, hs5, hs6⟩ := hSw; go_simp; first | done | (with_reducible rfl))
              try simp only [Act.put, List.setIfInBounds_toArray, List.set_cons_zero, List.set_cons_succ]
              refine wpAnyH_take (i := 9) (oi := ⟨some 104, _, _, _, _, _⟩) (v := ?v109) rfl (by kernel_rfl) (by kernel_rfl) (by kernel_rfl) (fun _ _ _ h => h) (Or.inl ⟨by rfl, ?hy109⟩) (by assumption) ?rest109
              case hy109 => (intro V hSw; (try dsimp only at hSw); obtain ⟨hs1, hs2, hs3, hs4, hs5, hs6⟩ := hSw; go_simp; first | done | (with_reducible rfl))
              try simp only [Act.put, List.setIfInBounds_toArray, List.set_cons_zero, List.set_cons_succ]
              refine wpAnyH_take (i := 10) (oi := ⟨some 105, _, _, _, _, _⟩) (v := ?v110) rfl (by kernel_rfl) (by kernel_rfl) (by kernel_rfl) (fun _ _ _ h => h) (Or.inl ⟨by rfl, ?hy110⟩) (by assumption) ?rest110
              case hy110 => (intro V hSw; (try dsimp only at hSw); obtain ⟨hs1, hs2, hs3, hs4, hs5, hs6⟩ := hSw; go_simp; first | done | (with_reducible rfl))
              try simp only [Act.put, List.setIfInBounds_toArray, List.set_cons_zero, List.set_cons_succ]
              refine wpAnyH_take (i := 11) (oi := ⟨some 106, _, _, _, _, _⟩) (v := ?v111) rfl (by kernel_rfl) (by kernel_rfl) (by kernel_rfl) (fun _ _ _ h => h) (Or.inl ⟨by rfl, ?hy111⟩) (by assumption) ?rest111
              case hy111 => (intro V hSw; (try dsimp only at hSw); obtain ⟨hs1, hs2, hs3, hs4, hs5, hs6⟩ := hSw; go_simp; first | done | (with_reducible rfl))
              try simp only [Act.put, List.setIfInBounds_toArray, List.set_cons_zero, List.set_cons_succ]
              refine wpAnyH_take (i := 12) (oi := ⟨some 107, _, _, _, _, _⟩) (v := ?v112) rfl (by kernel_rfl) (by kernel_rfl) (by kernel_rfl) (fun _ _ _ h => h) (Or.inl ⟨by rfl, ?hy112⟩) (by assumption) ?rest112
              case hy112 => (intro V hSw; (try dsimp only at hSw); obtain ⟨hs1, hs2, hs3, hs4, hs5, hs6⟩ := hSw; go_simp; first | done | (with_reducible rfl))
              try simp only [Act.put, List.setIfInBounds_toArray, List.set_cons_zero, List.set_cons_succ]
              refine' wpAnyH_take (i := 13) (oi := ⟨some 108, _, _, _, _, _⟩) (v := _) rfl (by kernel_rfl) (by kernel_rfl) (by kernel_rfl) (fun _ _ _ h => h) (yieldsIf_load_mid (by rfl) _ _ rfl _ _ rfl _ _ ?hS113 u51 rfl sr1) (by assumption) ?rest113
              case hS113 => exact fun V hSw => hSw.2.2.1
              try simp only [Act.put, List.setIfInBounds_toArray, List.set_cons_zero, List.set_cons_succ]
              refine wpAnyH_take (i := 14) (oi := ⟨some 109, _, _, _, _, _⟩) (v := ?v114) rfl (by kernel_rfl) (by kernel_rfl) (by kernel_rfl) (fun _ _ _ h => h) (Or.inl ⟨by rfl, ?hy114⟩) (by assumption) ?rest114
              case hy114 => (intro V hSw; (try dsimp only at hSw); obtain ⟨hs1, hs2, hs3, hs4, hs5, hs6⟩ := hSw; go_simp; first | done | (with_reducible rfl))
              try simp only [Act.put, List.setIfInBounds_toArray, List.set_cons_zero, List.set_cons_succ]
              refine wpAnyH_take (i := 15) (oi := ⟨some 110, _, _, _, _, _⟩) (v := ?v115) rfl (by kernel_rfl) (by kernel_rfl) (by kernel_rfl) (fun _ _ _ h => h) (Or.inl ⟨by rfl, ?hy115⟩) (by assumption) ?rest115
              case hy115 => (intro V hSw; (try dsimp only at hSw); obtain ⟨hs1, hs2, hs3, hs4, hs5, hs6⟩ := hSw; go_simp; first | done | (with_reducible rfl))
              try simp only [Act.put, List.setIfInBounds_toArray, List.set_cons_zero, List.set_cons_succ]
              refine wpAnyH_take (i := 16) (oi := ⟨some 111, _, _, _, _, _⟩) (v := ?v116) rfl (by kernel_rfl) (by kernel_rfl) (by kernel_rfl) (fun _ _ _ h => h) (Or.inl ⟨by rfl, ?hy116⟩) (by assumption) ?rest116
              case hy116 => (intro V hSw; (try dsimp only at hSw); obtain ⟨hs1, hs2, hs3, hs4, hs5, hs6⟩ := hSw; go_simp; first | done | (with_reducible rfl))
              try simp only [Act.put, List.setIfInBounds_toArray, List.set_cons_zero, List.set_cons_succ]
              refine' wpAnyH_take (i := 17) (oi := ⟨some 112, _, _, _, _, _⟩) (v := _) rfl (by kernel_rfl) (by kernel_rfl) (by kernel_rfl) (fun _ _ _ h => h) (yieldsIf_load_mid (by rfl) _ _ rfl _ _ rfl _ _ ?hS117 u51 rfl sr2) (by assumption) ?rest117
              case hS117 => exact fun V hSw => hSw.2.2.2.1
              try simp only [Act.put, List.setIfInBounds_toArray, List.set_cons_zero, List.set_cons_succ]
              refine wpAnyH_take (i := 18) (oi := ⟨some 113, _, _, _, _, _⟩) (v := ?v118) rfl (by kernel_rfl) (by kernel_rfl) (by kernel_rfl) (fun _ _ _ h => h) (Or.inl ⟨by rfl, ?hy118⟩) (by assumption) ?rest118
              case hy118 => (intro V hSw; (try dsimp only at hSw); obtain ⟨hs1, hs2, hs3, hs4, hs5, hs6⟩ := hSw; go_simp; first | done | (with_reducible rfl))
              try simp only [Act.put, List.setIfInBounds_toArray, List.set_cons_zero, List.set_cons_succ]
              refine wpAnyH_take (i := 19) (oi := ⟨some 114, _, _, _, _, _⟩) (v := ?v119) rfl (by kernel_rfl) (by kernel_rfl) (by kernel_rfl) (fun _ _ _ h => h) (Or.inl ⟨by rfl, ?hy119⟩) (by assumption) ?rest119
              case hy119 => (intro V hSw; (try dsimp only at hSw); obtain ⟨hs1, hs2, hs3, hs4, hs5, hs6⟩ := hSw; go_simp; first | done | (with_reducible rfl))
              try simp only [Act.put, List.setIfInBounds_toArray, List.set_cons_zero, List.set_cons_succ]
              refine wpAnyH_take (i := 20) (oi := ⟨some 115, _, _, _, _, _⟩) (v := ?v120) rfl (by kernel_rfl) (by kernel_rfl) (by kernel_rfl) (fun _ _ _ h => h) (Or.inl ⟨by rfl, ?hy120⟩) (by assumption) ?rest120
              case hy120 => (intro V hSw; (try dsimp only at hSw); obtain ⟨hs1, hs2, hs3, hs4, hs5, hs6⟩ := hSw; go_simp; first | done | (with_reducible rfl))
              try simp only [Act.put, List.setIfInBounds_toArray, List.set_cons_zero, List.set_cons_succ]
              refine wpAnyH_take (i := 21) (oi := ⟨some 116, _, _, _, _, _⟩) (v := undef) rfl (by kernel_rfl) (by kernel_rfl) (by kernel_rfl) (fun _ _ _ h => h) (Or.inr ⟨by rfl, rfl⟩) (by assumption) ?rest121
              try simp only [Act.put, List.setIfInBounds_toArray, List.set_cons_zero, List.set_cons_succ]
              refine wpAnyH_take (i := 22) (oi := ⟨some 117, _, _, _, _, _⟩) (v := undef) rfl (by kernel_rfl) (by kernel_rfl) (by kernel_rfl) (fun _ _ _ h => h) (Or.inr ⟨by rfl, rfl⟩) (by assumption) ?rest122
              try simp only [Act.put, List.setIfInBounds_toArray, List.set_cons_zero, List.set_cons_succ]
              refine wpAnyH_take (i := 23) (oi := ⟨some 118, _, _, _, _, _⟩) (v := undef) rfl (by kernel_rfl) (by kernel_rfl) (by kernel_rfl) (fun _ _ _ h => h) (Or.inr ⟨by rfl, rfl⟩) (by assumption) ?rest123
              try simp only [Act.put, List.setIfInBounds_toArray, List.set_cons_zero, List.set_cons_succ]
              refine wpAnyH_take (i := 24) (oi := ⟨some 119, _, _, _, _, _⟩) (v := undef) rfl (by kernel_rfl) (by kernel_rfl) (by kernel_rfl) (fun _ _ _ h => h) (Or.inr ⟨by rfl, rfl⟩) (by assumption) ?rest124
              try simp only [Act.put, List.setIfInBounds_toArray, List.set_cons_zero, List.set_cons_succ]
              refine wpAnyH_take (i := 25) (oi := ⟨some 120, _, _, _, _, _⟩) (v := undef) rfl (by kernel_rfl) (by kernel_rfl) (by kernel_rfl) (fun _ _ _ h => h) (Or.inr ⟨by rfl, rfl⟩) (by assumption) ?rest125
              try simp only [Act.put, List.setIfInBounds_toArray, List.set_cons_zero, List.set_cons_succ]
              refine wpAnyH_take (i := 26) (oi := ⟨some 121, _, _, _, _, _⟩) (v := undef) rfl (by kernel_rfl) (by kernel_rfl) (by kernel_rfl) (fun _ _ _ h => h) (Or.inr ⟨by rfl, rfl⟩) (by assumption) ?rest126
              try simp only [Act.put, List.setIfInBounds_toArray, List.set_cons_zero, List.set_cons_succ]
              refine wpAnyH_take (i := 27) (oi := ⟨some 122, _, _, _, _, _⟩) (v := undef) rfl (by kernel_rfl) (by kernel_rfl) (by kernel_rfl) (fun _ _ _ h => h) (Or.inr ⟨by rfl, rfl⟩) (by assumption) ?rest127
              try simp only [Act.put, List.setIfInBounds_toArray, List.set_cons_zero, List.set_cons_succ]
              refine wpAnyH_take (i := 28) (oi := ⟨some 123, _, _, _, _, _⟩) (v := undef) rfl (by kernel_rfl) (by kernel_rfl) (by kernel_rfl) (fun _ _ _ h => h) (Or.inr ⟨by rfl, rfl⟩) (by assumption) ?rest128
              try simp only [Act.put, List.setIfInBounds_toArray, List.set_cons_zero, List.set_cons_succ]
              refine wpAnyH_take (i := 29) (oi := ⟨some 124, _, _, _, _, _⟩) (v := undef) rfl (by kernel_rfl) (by kernel_rfl) (by kernel_rfl) (fun _ _ _ h => h) (Or.inr ⟨by rfl, rfl⟩) (by assumption) ?rest129
              try simp only [Act.put, List.setIfInBounds_toArray, List.set_cons_zero, List.set_cons_succ]
              refine wpAnyH_take (i := 30) (oi := ⟨some 125, _, _, _, _, _⟩) (v := ?v130) rfl (by kernel_rfl) (by kernel_rfl) (by kernel_rfl) (fun _ _ _ h => h) (Or.inl ⟨by rfl, ?hy130⟩) (by assumption) ?rest130
              case hy130 => (intro V hSw; (try dsimp only at hSw); obtain ⟨hs1, hs2, hs3, hs4, hs5, hs6⟩ := hSw; go_simp; first | done | (with_reducible rfl))
              try simp only [Act.put, List.setIfInBounds_toArray, List.set_cons_zero, List.set_cons_succ]
              refine wpAnyH_take (i := 31) (oi := ⟨some 16, _, _, _, _, _⟩) (v := ?v131) rfl (by kernel_rfl) (by kernel_rfl) (by kernel_rfl) (fun _ _ _ h => h) (Or.inl ⟨by rfl, ?hy131⟩) (by assumption) ?rest131
              case hy131 => (intro V hSw; (try dsimp only at hSw); obtain ⟨hs1, hs2, hs3, hs4, hs5, hs6⟩ := hSw; go_simp; first | done | (with_reducible rfl))
              try simp only [Act.put, List.setIfInBounds_toArray, List.set_cons_zero, List.set_cons_succ]
              refine wpAnyH_done (by kernel_rfl) ?_ _
              clear rp1 rp2 rr1 rr2 rl1 rl2 sp1 sp2 sr1 sr2 sl1 sl2 eP eR eL hHeld
              go_wp2_with fail
              go_loopw [16, 17] (fun vb vp wz => ∃ (p : Nat) (b : Bool), 1 ≤ p ∧ p ≤ 32 ∧ vp = .int .i64 p ∧ vb = .bool b ∧ (false && eqTo s s2 p) = b ∧ Only [] wr wz) (fun _ vp _ => 32 - (intOf vp).toNat)
              case atStart => exact ⟨1, _, by omega, by omega, rfl, rfl, by rw [eqTo_one]; simp, (Only.refl [] wr).drew⟩
              case round =>
                rename_i wz
                obtain ⟨p, b, p1, p2, rfl, rfl, hb, hO⟩ := hrel
                have HO := hide hO
                have HB := hide hb
                have HF3 := hide (HF2.out.only hO)
                clear hO hb
                by_cases hlt3 : p < 32
                · have d0 : decide (p ≤ 31) = true := decide_eq_true (by omega)
                  have HE := hide (eqTo_step s s2 p p1)
                  cases b with
                  | false =>
                    go_wp2_with (go_quiet (fail))
                    go_roundw
                    case rel => exact ⟨p + 1, false, by omega, by omega, by go_num, rfl, by rw [HE.out, ← Bool.and_assoc, HB.out]; rfl, HO.out.drewN _⟩
                    case measure => simp [intOf]; omega
                  | true => exact absurd HB.out (by simp)
                · obtain rfl : p = 32 := by omega
                  have SS2 := hide (show decide (SameS Q Q s2 s) = b by rw [← HAL.out, ← HB.out]; simp)
                  go_wp2_with (first
                    | (go_at_call 24; (with_reducible refine (same_any x g o k Q Q s s _ _ _ HF3.out.bx HF3.out.bo true SS1.out).mono ?_); rintro e y1 ⟨rfl, z1⟩; have G1 := hide (HF3.out.only z1); clear z1)
                    | (go_at_call 24; (with_reducible refine (same_any cc h x g Q Q s2 s _ _ _ G1.out.bc G1.out.bx b SS2.out).mono ?_); rintro e y2 ⟨rfl, z2⟩; have G2 := hide (G1.out.only z2); clear z2)
                    | (go_at_call 22; (with_reducible refine (stands_any x g r Q s (30 * i) (by omega) _ G2.out.bx G2.out.dr).mono ?_); rintro e y3 ⟨rfl, -, -, z3⟩; have G3 := hide (only_in G2.out.ow z3 G2.out.ordS); clear z3)
                    | (go_at_call 9; refine (known_any _).mono ?_; rintro e y4 ⟨rfl, z4⟩))
                  go_ret
                  exact ⟨rfl, G3.out.trans0 z4⟩
            | true =>
              refine wp_region_held_drew (S := (fun V => V.rangeAt r 33 P1 ∧ V.rangeAt q 33 P2 ∧ V.rangeAt r 49 R1 ∧ V.rangeAt q 49 R2 ∧ V.rangeAt r 65 L1 ∧ V.rangeAt q 65 L2)) (by kernel_rfl) ?_ (fun hHeld => ?_)
              · exact ⟨rp1, rp2, rr1, rr2, rl1, rl2⟩
              refine wpAnyH_take (i := 0) (oi := ⟨some 95, _, _, _, _, _⟩) (v := ?v200) rfl (by kernel_rfl) (by kernel_rfl) (by kernel_rfl) (fun _ _ _ h => h) (Or.inl ⟨by rfl, ?hy200⟩) (by assumption) ?rest200
              case hy200 => (intro V hSw; (try dsimp only at hSw); obtain ⟨hs1, hs2, hs3, hs4, hs5, hs6⟩ := hSw; go_simp; first | done | (with_reducible rfl))
              try simp only [Act.put, List.setIfInBounds_toArray, List.set_cons_zero, List.set_cons_succ]
              refine wpAnyH_take (i := 1) (oi := ⟨some 96, _, _, _, _, _⟩) (v := ?v201) rfl (by kernel_rfl) (by kernel_rfl) (by kernel_rfl) (fun _ _ _ h => h) (Or.inl ⟨by rfl, ?hy201⟩) (by assumption) ?rest201
              case hy201 => (intro V hSw; (try dsimp only at hSw); obtain ⟨hs1, hs2, hs3, hs4, hs5, hs6⟩ := hSw; go_simp; first | done | (with_reducible rfl))
              try simp only [Act.put, List.setIfInBounds_toArray, List.set_cons_zero, List.set_cons_succ]
              refine wpAnyH_take (i := 2) (oi := ⟨some 97, _, _, _, _, _⟩) (v := ?v202) rfl (by kernel_rfl) (by kernel_rfl) (by kernel_rfl) (fun _ _ _ h => h) (Or.inl ⟨by rfl, ?hy202⟩) (by assumption) ?rest202
              case hy202 => (intro V hSw; (try dsimp only at hSw); obtain ⟨hs1, hs2, hs3, hs4, hs5, hs6⟩ := hSw; go_simp; first | done | (with_reducible rfl))
              try simp only [Act.put, List.setIfInBounds_toArray, List.set_cons_zero, List.set_cons_succ]
              refine' wpAnyH_take (i := 3) (oi := ⟨some 98, _, _, _, _, _⟩) (v := _) rfl (by kernel_rfl) (by kernel_rfl) (by kernel_rfl) (fun _ _ _ h => h) (yieldsIf_load_mid (by rfl) _ _ rfl _ _ rfl _ _ ?hS203 u50 rfl sp1) (by assumption) ?rest203
              case hS203 => exact fun V hSw => hSw.1
              try simp only [Act.put, List.setIfInBounds_toArray, List.set_cons_zero, List.set_cons_succ]
              refine wpAnyH_take (i := 4) (oi := ⟨some 99, _, _, _, _, _⟩) (v := ?v204) rfl (by kernel_rfl) (by kernel_rfl) (by kernel_rfl) (fun _ _ _ h => h) (Or.inl ⟨by rfl, ?hy204⟩) (by assumption) ?rest204
              case hy204 => (intro V hSw; (try dsimp only at hSw); obtain ⟨hs1, hs2, hs3, hs4, hs5, hs6⟩ := hSw; go_simp; first | done | (with_reducible rfl))
              try simp only [Act.put, List.setIfInBounds_toArray, List.set_cons_zero, List.set_cons_succ]
              refine wpAnyH_take (i := 5) (oi := ⟨some 100, _, _, _, _, _⟩) (v := ?v205) rfl (by kernel_rfl) (by kernel_rfl) (by kernel_rfl) (fun _ _ _ h => h) (Or.inl ⟨by rfl, ?hy205⟩) (by assumption) ?rest205
              case hy205 => (intro V hSw; (try dsimp only at hSw); obtain ⟨hs1, hs2, hs3, hs4, hs5, hs6⟩ := hSw; go_simp; first | done | (with_reducible rfl))
              try simp only [Act.put, List.setIfInBounds_toArray, List.set_cons_zero, List.set_cons_succ]
              refine wpAnyH_take (i := 6) (oi := ⟨some 101, _, _, _, _, _⟩) (v := ?v206) rfl (by kernel_rfl) (by kernel_rfl) (by kernel_rfl) (fun _ _ _ h => h) (Or.inl ⟨by rfl, ?hy206⟩) (by assumption) ?rest206
              case hy206 => (intro V hSw; (try dsimp only at hSw); obtain ⟨hs1, hs2, hs3, hs4, hs5, hs6⟩ := hSw; go_simp; first | done | (with_reducible rfl))
              try simp only [Act.put, List.setIfInBounds_toArray, List.set_cons_zero, List.set_cons_succ]
              refine' wpAnyH_take (i := 7) (oi := ⟨some 102, _, _, _, _, _⟩) (v := _) rfl (by kernel_rfl) (by kernel_rfl) (by kernel_rfl) (fun _ _ _ h => h) (yieldsIf_load_mid (by rfl) _ _ rfl _ _ rfl _ _ ?hS207 u50 rfl sp2) (by assumption) ?rest207
              case hS207 => exact fun V hSw => hSw.2.1
              try simp only [Act.put, List.setIfInBounds_toArray, List.set_cons_zero, List.set_cons_succ]
              refine wpAnyH_take (i := 8) (oi := ⟨some 103, _, _, _, _, _⟩) (v := ?v208) rfl (by kernel_rfl) (by kernel_rfl) (by kernel_rfl) (fun _ _ _ h => h) (Or.inl ⟨by rfl, ?hy208⟩) (by assumption) ?rest208
              case hy208 => (intro V hSw; (try dsimp only at hSw); obtain ⟨hs1, hs2, hs3, hs4, hs5, hs6⟩ := hSw; go_simp; first | done | (with_reducible rfl))
              try simp only [Act.put, List.setIfInBounds_toArray, List.set_cons_zero, List.set_cons_succ]
              refine wpAnyH_take (i := 9) (oi := ⟨some 104, _, _, _, _, _⟩) (v := ?v209) rfl (by kernel_rfl) (by kernel_rfl) (by kernel_rfl) (fun _ _ _ h => h) (Or.inl ⟨by rfl, ?hy209⟩) (by assumption) ?rest209
              case hy209 => (intro V hSw; (try dsimp only at hSw); obtain ⟨hs1, hs2, hs3, hs4, hs5, hs6⟩ := hSw; go_simp; first | done | (with_reducible rfl))
              try simp only [Act.put, List.setIfInBounds_toArray, List.set_cons_zero, List.set_cons_succ]
              refine wpAnyH_take (i := 10) (oi := ⟨some 105, _, _, _, _, _⟩) (v := ?v210) rfl (by kernel_rfl) (by kernel_rfl) (by kernel_rfl) (fun _ _ _ h => h) (Or.inl ⟨by rfl, ?hy210⟩) (by assumption) ?rest210
              case hy210 => (intro V hSw; (try dsimp only at hSw); obtain ⟨hs1, hs2, hs3, hs4, hs5, hs6⟩ := hSw; go_simp; first | done | (with_reducible rfl))
              try simp only [Act.put, List.setIfInBounds_toArray, List.set_cons_zero, List.set_cons_succ]
              refine wpAnyH_take (i := 11) (oi := ⟨some 106, _, _, _, _, _⟩) (v := ?v211) rfl (by kernel_rfl) (by kernel_rfl) (by kernel_rfl) (fun _ _ _ h => h) (Or.inl ⟨by rfl, ?hy211⟩) (by assumption) ?rest211
              case hy211 => (intro V hSw; (try dsimp only at hSw); obtain ⟨hs1, hs2, hs3, hs4, hs5, hs6⟩ := hSw; go_simp; first | done | (with_reducible rfl))
              try simp only [Act.put, List.setIfInBounds_toArray, List.set_cons_zero, List.set_cons_succ]
              refine wpAnyH_take (i := 12) (oi := ⟨some 107, _, _, _, _, _⟩) (v := ?v212) rfl (by kernel_rfl) (by kernel_rfl) (by kernel_rfl) (fun _ _ _ h => h) (Or.inl ⟨by rfl, ?hy212⟩) (by assumption) ?rest212
              case hy212 => (intro V hSw; (try dsimp only at hSw); obtain ⟨hs1, hs2, hs3, hs4, hs5, hs6⟩ := hSw; go_simp; first | done | (with_reducible rfl))
              try simp only [Act.put, List.setIfInBounds_toArray, List.set_cons_zero, List.set_cons_succ]
              refine' wpAnyH_take (i := 13) (oi := ⟨some 108, _, _, _, _, _⟩) (v := _) rfl (by kernel_rfl) (by kernel_rfl) (by kernel_rfl) (fun _ _ _ h => h) (yieldsIf_load_mid (by rfl) _ _ rfl _ _ rfl _ _ ?hS213 u51 rfl sr1) (by assumption) ?rest213
              case hS213 => exact fun V hSw => hSw.2.2.1
              try simp only [Act.put, List.setIfInBounds_toArray, List.set_cons_zero, List.set_cons_succ]
              refine wpAnyH_take (i := 14) (oi := ⟨some 109, _, _, _, _, _⟩) (v := ?v214) rfl (by kernel_rfl) (by kernel_rfl) (by kernel_rfl) (fun _ _ _ h => h) (Or.inl ⟨by rfl, ?hy214⟩) (by assumption) ?rest214
              case hy214 => (intro V hSw; (try dsimp only at hSw); obtain ⟨hs1, hs2, hs3, hs4, hs5, hs6⟩ := hSw; go_simp; first | done | (with_reducible rfl))
              try simp only [Act.put, List.setIfInBounds_toArray, List.set_cons_zero, List.set_cons_succ]
              refine wpAnyH_take (i := 15) (oi := ⟨some 110, _, _, _, _, _⟩) (v := ?v215) rfl (by kernel_rfl) (by kernel_rfl) (by kernel_rfl) (fun _ _ _ h => h) (Or.inl ⟨by rfl, ?hy215⟩) (by assumption) ?rest215
              case hy215 => (intro V hSw; (try dsimp only at hSw); obtain ⟨hs1, hs2, hs3, hs4, hs5, hs6⟩ := hSw; go_simp; first | done | (with_reducible rfl))
              try simp only [Act.put, List.setIfInBounds_toArray, List.set_cons_zero, List.set_cons_succ]
              refine wpAnyH_take (i := 16) (oi := ⟨some 111, _, _, _, _, _⟩) (v := ?v216) rfl (by kernel_rfl) (by kernel_rfl) (by kernel_rfl) (fun _ _ _ h => h) (Or.inl ⟨by rfl, ?hy216⟩) (by assumption) ?rest216
              case hy216 => (intro V hSw; (try dsimp only at hSw); obtain ⟨hs1, hs2, hs3, hs4, hs5, hs6⟩ := hSw; go_simp; first | done | (with_reducible rfl))
              try simp only [Act.put, List.setIfInBounds_toArray, List.set_cons_zero, List.set_cons_succ]
              refine' wpAnyH_take (i := 17) (oi := ⟨some 112, _, _, _, _, _⟩) (v := _) rfl (by kernel_rfl) (by kernel_rfl) (by kernel_rfl) (fun _ _ _ h => h) (yieldsIf_load_mid (by rfl) _ _ rfl _ _ rfl _ _ ?hS217 u51 rfl sr2) (by assumption) ?rest217
              case hS217 => exact fun V hSw => hSw.2.2.2.1
              try simp only [Act.put, List.setIfInBounds_toArray, List.set_cons_zero, List.set_cons_succ]
              refine wpAnyH_take (i := 18) (oi := ⟨some 113, _, _, _, _, _⟩) (v := ?v218) rfl (by kernel_rfl) (by kernel_rfl) (by kernel_rfl) (fun _ _ _ h => h) (Or.inl ⟨by rfl, ?hy218⟩) (by assumption) ?rest218
              case hy218 => (intro V hSw; (try dsimp only at hSw); obtain ⟨hs1, hs2, hs3, hs4, hs5, hs6⟩ := hSw; go_simp; first | done | (with_reducible rfl))
              try simp only [Act.put, List.setIfInBounds_toArray, List.set_cons_zero, List.set_cons_succ]
              refine wpAnyH_take (i := 19) (oi := ⟨some 114, _, _, _, _, _⟩) (v := ?v219) rfl (by kernel_rfl) (by kernel_rfl) (by kernel_rfl) (fun _ _ _ h => h) (Or.inl ⟨by rfl, ?hy219⟩) (by assumption) ?rest219
              case hy219 => (intro V hSw; (try dsimp only at hSw); obtain ⟨hs1, hs2, hs3, hs4, hs5, hs6⟩ := hSw; go_simp; first | done | (with_reducible rfl))
              try simp only [Act.put, List.setIfInBounds_toArray, List.set_cons_zero, List.set_cons_succ]
              refine wpAnyH_take (i := 20) (oi := ⟨some 115, _, _, _, _, _⟩) (v := ?v220) rfl (by kernel_rfl) (by kernel_rfl) (by kernel_rfl) (fun _ _ _ h => h) (Or.inl ⟨by rfl, ?hy220⟩) (by assumption) ?rest220
              case hy220 => (intro V hSw; (try dsimp only at hSw); obtain ⟨hs1, hs2, hs3, hs4, hs5, hs6⟩ := hSw; go_simp; first | done | (with_reducible rfl))
              try simp only [Act.put, List.setIfInBounds_toArray, List.set_cons_zero, List.set_cons_succ]
              refine wpAnyH_take (i := 21) (oi := ⟨some 116, _, _, _, _, _⟩) (v := ?v221) rfl (by kernel_rfl) (by kernel_rfl) (by kernel_rfl) (fun _ _ _ h => h) (Or.inl ⟨by rfl, ?hy221⟩) (by assumption) ?rest221
              case hy221 => (intro V hSw; (try dsimp only at hSw); obtain ⟨hs1, hs2, hs3, hs4, hs5, hs6⟩ := hSw; go_simp; first | done | (with_reducible rfl))
              try simp only [Act.put, List.setIfInBounds_toArray, List.set_cons_zero, List.set_cons_succ]
              refine wpAnyH_take (i := 22) (oi := ⟨some 117, _, _, _, _, _⟩) (v := ?v222) rfl (by kernel_rfl) (by kernel_rfl) (by kernel_rfl) (fun _ _ _ h => h) (Or.inl ⟨by rfl, ?hy222⟩) (by assumption) ?rest222
              case hy222 => (intro V hSw; (try dsimp only at hSw); obtain ⟨hs1, hs2, hs3, hs4, hs5, hs6⟩ := hSw; go_simp; first | done | (with_reducible rfl))
              try simp only [Act.put, List.setIfInBounds_toArray, List.set_cons_zero, List.set_cons_succ]
              refine wpAnyH_take (i := 23) (oi := ⟨some 118, _, _, _, _, _⟩) (v := ?v223) rfl (by kernel_rfl) (by kernel_rfl) (by kernel_rfl) (fun _ _ _ h => h) (Or.inl ⟨by rfl, ?hy223⟩) (by assumption) ?rest223
              case hy223 => (intro V hSw; (try dsimp only at hSw); obtain ⟨hs1, hs2, hs3, hs4, hs5, hs6⟩ := hSw; go_simp; first | done | (with_reducible rfl))
              try simp only [Act.put, List.setIfInBounds_toArray, List.set_cons_zero, List.set_cons_succ]
              refine' wpAnyH_take (i := 24) (oi := ⟨some 119, _, _, _, _, _⟩) (v := _) rfl (by kernel_rfl) (by kernel_rfl) (by kernel_rfl) (fun _ _ _ h => h) (yieldsIf_load_mid (by rfl) _ _ rfl _ _ rfl _ _ ?hS224 u50 rfl sl1) (by assumption) ?rest224
              case hS224 => exact fun V hSw => hSw.2.2.2.2.1
              try simp only [Act.put, List.setIfInBounds_toArray, List.set_cons_zero, List.set_cons_succ]
              refine wpAnyH_take (i := 25) (oi := ⟨some 120, _, _, _, _, _⟩) (v := ?v225) rfl (by kernel_rfl) (by kernel_rfl) (by kernel_rfl) (fun _ _ _ h => h) (Or.inl ⟨by rfl, ?hy225⟩) (by assumption) ?rest225
              case hy225 => (intro V hSw; (try dsimp only at hSw); obtain ⟨hs1, hs2, hs3, hs4, hs5, hs6⟩ := hSw; go_simp; first | done | (with_reducible rfl))
              try simp only [Act.put, List.setIfInBounds_toArray, List.set_cons_zero, List.set_cons_succ]
              refine wpAnyH_take (i := 26) (oi := ⟨some 121, _, _, _, _, _⟩) (v := ?v226) rfl (by kernel_rfl) (by kernel_rfl) (by kernel_rfl) (fun _ _ _ h => h) (Or.inl ⟨by rfl, ?hy226⟩) (by assumption) ?rest226
              case hy226 => (intro V hSw; (try dsimp only at hSw); obtain ⟨hs1, hs2, hs3, hs4, hs5, hs6⟩ := hSw; go_simp; first | done | (with_reducible rfl))
              try simp only [Act.put, List.setIfInBounds_toArray, List.set_cons_zero, List.set_cons_succ]
              refine wpAnyH_take (i := 27) (oi := ⟨some 122, _, _, _, _, _⟩) (v := ?v227) rfl (by kernel_rfl) (by kernel_rfl) (by kernel_rfl) (fun _ _ _ h => h) (Or.inl ⟨by rfl, ?hy227⟩) (by assumption) ?rest227
              case hy227 => (intro V hSw; (try dsimp only at hSw); obtain ⟨hs1, hs2, hs3, hs4, hs5, hs6⟩ := hSw; go_simp; first | done | (with_reducible rfl))
              try simp only [Act.put, List.setIfInBounds_toArray, List.set_cons_zero, List.set_cons_succ]
              refine' wpAnyH_take (i := 28) (oi := ⟨some 123, _, _, _, _, _⟩) (v := _) rfl (by kernel_rfl) (by kernel_rfl) (by kernel_rfl) (fun _ _ _ h => h) (yieldsIf_load_mid (by rfl) _ _ rfl _ _ rfl _ _ ?hS228 u50 rfl sl2) (by assumption) ?rest228
              case hS228 => exact fun V hSw => hSw.2.2.2.2.2
              try simp only [Act.put, List.setIfInBounds_toArray, List.set_cons_zero, List.set_cons_succ]
              refine wpAnyH_take (i := 29) (oi := ⟨some 124, _, _, _, _, _⟩) (v := ?v229) rfl (by kernel_rfl) (by kernel_rfl) (by kernel_rfl) (fun _ _ _ h => h) (Or.inl ⟨by rfl, ?hy229⟩) (by assumption) ?rest229
              case hy229 => (intro V hSw; (try dsimp only at hSw); obtain ⟨hs1, hs2, hs3, hs4, hs5, hs6⟩ := hSw; go_simp; first | done | (with_reducible rfl))
              try simp only [Act.put, List.setIfInBounds_toArray, List.set_cons_zero, List.set_cons_succ]
              refine wpAnyH_take (i := 30) (oi := ⟨some 125, _, _, _, _, _⟩) (v := ?v230) rfl (by kernel_rfl) (by kernel_rfl) (by kernel_rfl) (fun _ _ _ h => h) (Or.inl ⟨by rfl, ?hy230⟩) (by assumption) ?rest230
              case hy230 => (intro V hSw; (try dsimp only at hSw); obtain ⟨hs1, hs2, hs3, hs4, hs5, hs6⟩ := hSw; go_simp; first | done | (with_reducible rfl))
              try simp only [Act.put, List.setIfInBounds_toArray, List.set_cons_zero, List.set_cons_succ]
              refine wpAnyH_take (i := 31) (oi := ⟨some 16, _, _, _, _, _⟩) (v := ?v231) rfl (by kernel_rfl) (by kernel_rfl) (by kernel_rfl) (fun _ _ _ h => h) (Or.inl ⟨by rfl, ?hy231⟩) (by assumption) ?rest231
              case hy231 => (intro V hSw; (try dsimp only at hSw); obtain ⟨hs1, hs2, hs3, hs4, hs5, hs6⟩ := hSw; go_simp; first | done | (with_reducible rfl))
              try simp only [Act.put, List.setIfInBounds_toArray, List.set_cons_zero, List.set_cons_succ]
              refine wpAnyH_done (by kernel_rfl) ?_ _
              clear rp1 rp2 rr1 rr2 rl1 rl2 sp1 sp2 sr1 sr2 sl1 sl2 eP eR eL hHeld
              go_wp2_with fail
              go_loopw [16, 17] (fun vb vp wz => ∃ (p : Nat) (b : Bool), 1 ≤ p ∧ p ≤ 32 ∧ vp = .int .i64 p ∧ vb = .bool b ∧ (bl && eqTo s s2 p) = b ∧ Only [] wr wz) (fun _ vp _ => 32 - (intOf vp).toNat)
              case atStart => exact ⟨1, _, by omega, by omega, rfl, rfl, by rw [eqTo_one]; simp, (Only.refl [] wr).drew⟩
              case round =>
                rename_i wz
                obtain ⟨p, b, p1, p2, rfl, rfl, hb, hO⟩ := hrel
                have HO := hide hO
                have HB := hide hb
                have HF3 := hide (HF2.out.only hO)
                clear hO hb
                by_cases hlt3 : p < 32
                · have d0 : decide (p ≤ 31) = true := decide_eq_true (by omega)
                  have HE := hide (eqTo_step s s2 p p1)
                  cases b with
                  | false =>
                    go_wp2_with (go_quiet (fail))
                    go_roundw
                    case rel => exact ⟨p + 1, false, by omega, by omega, by go_num, rfl, by rw [HE.out, ← Bool.and_assoc, HB.out]; rfl, HO.out.drewN _⟩
                    case measure => simp [intOf]; omega
                  | true =>
                    obtain ⟨A5, c5, k5, n5⟩ := DR.cS HF3.out.dr (p := p) (by omega)
                    obtain ⟨A6, c6, k6, n6⟩ := DR.cS HF3.out.dq (p := p) (by omega)
                    have l5 := HF3.out.bx.facts.2.1 p
                    have l6 := HF3.out.bc.facts.2.1 p
                    obtain ⟨N, hN⟩ : ∃ N, (s.q p).length = N := ⟨_, rfl⟩
                    obtain ⟨M, hM⟩ : ∃ M, (s2.q p).length = M := ⟨_, rfl⟩
                    rw [hN] at k5 l5
                    rw [hM] at k6 l6
                    obtain ⟨eb, heb⟩ : ∃ eb, decide (s.q p = s2.q p) = eb := ⟨_, rfl⟩
                    have IN := hide (fun n0 => ints_quiet A5 A6 c5 c6 N M _ _ hN hM eb heb _ n0 n5.nsrc n6.nsrc (by omega) (by omega))
                    have HEB := hide heb
                    have i0 : (0 : Int) ≤ (p : Int) := by omega
                    have i1 : (p : Int) < 32 := by omega
                    clear n5 n6 hN hM heb
                    go_wp2_with (go_quiet ((go_at_call 18; exact IN.out _)))
                    go_roundw
                    case rel => exact ⟨p + 1, eb, by omega, by omega, by go_num, rfl, by rw [HE.out, ← Bool.and_assoc, HB.out, HEB.out]; simp, HO.out.drewN _⟩
                    case measure => simp [intOf]; omega
                · obtain rfl : p = 32 := by omega
                  have SS2 := hide (show decide (SameS Q Q s2 s) = b by rw [← HAL.out, ← HB.out]; simp)
                  go_wp2_with (first
                    | (go_at_call 24; (with_reducible refine (same_any x g o k Q Q s s _ _ _ HF3.out.bx HF3.out.bo true SS1.out).mono ?_); rintro e y1 ⟨rfl, z1⟩; have G1 := hide (HF3.out.only z1); clear z1)
                    | (go_at_call 24; (with_reducible refine (same_any cc h x g Q Q s2 s _ _ _ G1.out.bc G1.out.bx b SS2.out).mono ?_); rintro e y2 ⟨rfl, z2⟩; have G2 := hide (G1.out.only z2); clear z2)
                    | (go_at_call 22; (with_reducible refine (stands_any x g r Q s (30 * i) (by omega) _ G2.out.bx G2.out.dr).mono ?_); rintro e y3 ⟨rfl, -, -, z3⟩; have G3 := hide (only_in G2.out.ow z3 G2.out.ordS); clear z3)
                    | (go_at_call 9; refine (known_any _).mono ?_; rintro e y4 ⟨rfl, z4⟩))
                  go_ret
                  exact ⟨rfl, G3.out.trans0 z4⟩
theorem copies_walk (Q : Int) (A : Option Addr) (n c : Nat) (A2 : Option Addr) (n2 c2 : Nat) (w : World) (hst : StepsAt w A n) (hst2 : StepsAt w A2 n2) (hn : n ≤ maxLen) (hn2 : n2 ≤ maxLen) : Calls Try.prog 7 #[.int .i64 Q, .slice A n c, .slice A2 n2 c2] w fun e w' => e = .returned (.bool true) ∧ Only [] w w' := by
  by_cases h : 1 ≤ Q ∧ Q ≤ 100 ∧ n ≤ 100 ∧ n2 ≤ 100
  · exact copies_in Q A A2 n c n2 c2 h.1 h.2.1 h.2.2.1 h.2.2.2 w hst hst2
  · exact copies_bad Q A A2 n c n2 c2 h w
end Go.Proofs.Ytnndengdlokmbaa
