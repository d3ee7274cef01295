/- Signals: rows of queues as the law of SignalsQueue keeps them, in memory and as lists. No condition. -/
import Derived.Test.YtnmlcijkggfhmaaSf5
namespace Go.Proofs.Ytnmlcijkggfhmaa
open Go.RowKit Go.Shelf
set_option linter.unusedVariables false
set_option linter.all false
set_option maxRecDepth 20000

theorem I64s_append (a b : List Int) : I64s (a ++ b) = I64s a ++ I64s b := by simp [I64s]
theorem I64s_len (a : List Int) : (I64s a).length = a.length := by simp [I64s]
theorem I64s_get (l : List Int) (i : Nat) : (I64s l)[i]? = l[i]?.map (fun v => .int .i64 v) := by simp [I64s]
/-- One row of numbers, owned. -/
def Qr (w : World) (B : Nat) (A : Option Addr) (c : Nat) (l : List Int) : Prop := w.ownsRow B 2 1 (.slice A l.length c) l.length (I64s l)
theorem Qr.only {w w' : World} {B : Nat} {A : Option Addr} {c : Nat} {l : List Int} {S : List Nat} (h : Qr w B A c l) (o : Only S w w') (hS : ∀ x ∈ blkOf A, x ∉ S) : Qr w' B A c l := own_only' h o hS
theorem Qr.cell {w : World} {B : Nat} {A : Option Addr} {c : Nat} {l : List Int} (h : Qr w B A c l) {i : Nat} {x : Int} (hx : l[i]? = some x) : ∃ g, A = some ⟨g, 0, none⟩ ∧ w.cell? ⟨g, i, none⟩ = some (.int .i64 x) ∧ w.frozen? ⟨g, i, none⟩ = false := by
  have hi := (List.getElem?_eq_some_iff.1 hx).1
  obtain ⟨g, rfl, h1, h2⟩ := own_cell h (by omega)
  refine ⟨g, rfl, ?_, h2 i⟩
  rw [h1 i (by omega), I64s_get, hx]
  rfl
theorem app_i64 (W : World) (B : Nat) (A : Option Addr) (c : Nat) (l : List Int) (v : Int) (hrow : Qr W B A c l) (hl : l.length ≤ 100000) (hB : B ≤ W.heap.size) :
    ∃ g' c' w2, (AppH #[29, 29] 29 #[.slice A l.length c, .slice (some ⟨W.heap.size, 0, none⟩) 1 1]).run Try.prog (W.alloc (.cells #[.int .i64 v] 2)) = .ok (.slice (some ⟨g', 0, none⟩) (l.length + 1) c') w2 ∧
      Qr w2 B (some ⟨g', 0, none⟩) c' (l ++ [v]) ∧ Only (blkOf A) W w2 ∧ (g' ∈ blkOf A ∨ g' = W.heap.size + 1) := by
  obtain ⟨i0, hi, hz0, hz1, hz2⟩ := info_parts int2_info
  obtain ⟨g', cap', w2, hrun, hown, ho, hgg⟩ := append_at (P := Try.prog) (W.alloc (.cells #[.int .i64 v] 2)) B 29 29 2 i0 (.int .i64 0) 1 8 Try.underlying29 hi hz0 hz1 hz2 rfl (by omega) A l.length c (I64s l) (own_only' hrow ((Only.refl [] W).alloc _) (by simp))
    ⟨W.heap.size, 0, none⟩ 1 1 [.int .i64 v] rfl (fun j u hj => by
      have := (Blk.new W 2 #[.int .i64 v]).cell j
      rw [add_mk, Nat.zero_add, this]
      show ([.int .i64 v] : List Value).toArray[j]? = _
      rw [List.getElem?_toArray]
      exact hj) (by simp [Value.oneCell']) (.inl (by omega)) (by unfold maxLen; omega) (by omega) (by simp; omega)
  rw [app_hide] at hrun
  have e : I64s l ++ [.int .i64 v] = I64s (l ++ [v]) := by rw [I64s_append]; rfl
  rw [e] at hown
  refine ⟨g', cap', w2, hrun, by unfold Qr; simpa using hown, ((Only.refl (blkOf A) W).alloc _).trans' ho, ?_⟩
  rcases hgg with h | h
  · exact .inl h
  · exact .inr (by rw [h]; simp)

/-- One row more in a family of rows. -/
def upq (Q : Nat → List Int) (k : Nat) (v : Int) : Nat → List Int := fun i => if i = k then Q i ++ [v] else Q i
theorem upq_same (Q : Nat → List Int) (k : Nat) (v : Int) : upq Q k v k = Q k ++ [v] := if_pos rfl
theorem upq_other (Q : Nat → List Int) (k : Nat) (v : Int) {i : Nat} (h : i ≠ k) : upq Q k v i = Q i := if_neg h
/-- 32 rows in a block, X: the blocks that they lie in. -/
structure ArrC (w : World) (B a : Nat) (Q : Nat → List Int) (X : List Nat) (Ad : Nat → Option Addr) (C : Nat → Nat) : Prop where
  blk : ∃ cs : Array Value, Blk w a 30 cs ∧ ∀ k, k < 32 → cs[k]? = some (.slice (Ad k) (Q k).length (C k))
  row : ∀ k, k < 32 → Qr w B (Ad k) (C k) (Q k)
  own : ∀ k, k < 32 → ∀ x ∈ blkOf (Ad k), x ∈ X
  sep : ∀ i j, i < 32 → j < 32 → i ≠ j → ∀ x ∈ blkOf (Ad i), x ∉ blkOf (Ad j)
  lt : ∀ x ∈ X, B ≤ x ∧ x < w.heap.size
  base : a < B ∧ B ≤ w.heap.size
def Arr (w : World) (B a : Nat) (Q : Nat → List Int) (X : List Nat) : Prop := ∃ Ad C, ArrC w B a Q X Ad C
theorem Arr.only {w w' : World} {B a : Nat} {Q : Nat → List Int} {X S : List Nat} (h : Arr w B a Q X) (o : Only S w w') (ha : a ∉ S) (hX : ∀ x ∈ X, x ∉ S) : Arr w' B a Q X := by
  obtain ⟨Ad, C, ⟨cs, hb, hc⟩, h2, h3, h4, h5, h6⟩ := h
  have hs := o.size
  exact ⟨Ad, C, ⟨cs, hb.only o ha, hc⟩, fun k hk => (h2 k hk).only o (fun x hx => hX x (h3 k hk x hx)), h3, h4, fun x hx => ⟨(h5 x hx).1, by have := (h5 x hx).2; omega⟩, by omega⟩
theorem Arr.only0 {w w' : World} {B a : Nat} {Q : Nat → List Int} {X : List Nat} (h : Arr w B a Q X) (o : Only [] w w') : Arr w' B a Q X := h.only o (by simp) (by simp)
theorem Arr.get {w : World} {B a : Nat} {Q : Nat → List Int} {X : List Nat} (h : Arr w B a Q X) {k : Nat} (hk : k < 32) : ∃ A c, w.cell? ⟨a, k, none⟩ = some (.slice A (Q k).length c) ∧ Qr w B A c (Q k) := by
  obtain ⟨Ad, C, ⟨cs, hb, hc⟩, h2, h3, h4, h5, h6⟩ := h
  exact ⟨Ad k, C k, (hb.cell k).trans (hc k hk), h2 k hk⟩
theorem Arr.fz {w : World} {B a : Nat} {Q : Nat → List Int} {X : List Nat} (h : Arr w B a Q X) (k : Nat) : w.frozen? ⟨a, k, none⟩ = false := by
  obtain ⟨Ad, C, ⟨cs, hb, hc⟩, h2, h3, h4, h5, h6⟩ := h
  exact hb.frozen k
theorem Arr.lt {w : World} {B a : Nat} {Q : Nat → List Int} {X : List Nat} (h : Arr w B a Q X) : (∀ x ∈ X, B ≤ x ∧ x < w.heap.size) ∧ a < B ∧ B ≤ w.heap.size := by
  obtain ⟨Ad, C, ⟨cs, hb, hc⟩, h2, h3, h4, h5, h6⟩ := h
  exact ⟨h5, h6⟩
theorem Arr.typ {w : World} {B a : Nat} {Q : Nat → List Int} {X : List Nat} (h : Arr w B a Q X) : ∃ cs, Blk w a 30 cs := by
  obtain ⟨Ad, C, ⟨cs, hb, hc⟩, h2, h3, h4, h5, h6⟩ := h
  exact ⟨cs, hb⟩
theorem Arr.new (w : World) (B a : Nat) (hb : Blk w a 30 (Array.replicate 32 (.slice none 0 0))) (h1 : a < B) (h2 : B ≤ w.heap.size) : Arr w B a (fun _ => []) [] :=
  ⟨fun _ => none, fun _ => 0, ⟨_, hb, fun k hk => by simp [hk]⟩, fun k hk => World.ownsRow_nil .., fun k hk x hx => by simp [blkOf] at hx, fun i j _ _ _ x hx => by simp [blkOf] at hx, fun x hx => by simp at hx, h1, h2⟩
/-- One more in the row k: append, then the store. -/
theorem Arr.push {w : World} {B a : Nat} {Q : Nat → List Int} {X : List Nat} (h : Arr w B a Q X) {k : Nat} (hk : k < 32) (v : Int) (hl : (Q k).length ≤ 100000) :
    ∃ A c g' c' w2, w.cell? ⟨a, k, none⟩ = some (.slice A (Q k).length c) ∧
      (AppH #[29, 29] 29 #[.slice A (Q k).length c, .slice (some ⟨w.heap.size, 0, none⟩) 1 1]).run Try.prog (w.alloc (.cells #[.int .i64 v] 2)) = .ok (.slice (some ⟨g', 0, none⟩) ((Q k).length + 1) c') w2 ∧
      Qr w B A c (Q k) ∧ Only (blkOf A) w w2 ∧ (∀ x ∈ blkOf A, x ∈ X) ∧ w2.frozen? ⟨a, k, none⟩ = false ∧
      Arr (w2.setCell ⟨a, k, none⟩ (.slice (some ⟨g', 0, none⟩) ((Q k).length + 1) c')) B a (upq Q k v) (g' :: X) ∧ (g' ∈ X ∨ w.heap.size ≤ g') := by
  have h0 := h
  obtain ⟨Ad, C, ⟨cs, hb, hc⟩, h2, h3, h4, h5, h6⟩ := h
  obtain ⟨g', c', w2, e, r2, o2, hg⟩ := app_i64 w B (Ad k) (C k) (Q k) v (h2 k hk) hl h6.2
  have oX : Only X w w2 := o2.mono (fun x hx => .inl (h3 k hk x hx))
  have haX : a ∉ X := fun hx => by have := (h5 a hx).1; omega
  have hb2 := hb.only oX haX
  have hgw : g' < w2.heap.size := (own_ge r2 g' (by simp [blkOf])).2
  have hgB : B ≤ g' := (own_ge r2 g' (by simp [blkOf])).1
  have hga : g' ≠ a := by omega
  have hs2 := o2.size
  have hcz : k < cs.size := (Array.getElem?_eq_some_iff.1 (hc k hk)).1
  have hfar : ∀ j, j < 32 → j ≠ k → ∀ x ∈ blkOf (Ad j), x ∉ blkOf (Ad k) := fun j hj hjk => h4 j k hj hk hjk
  have oS : Only [a] w2 (w2.setCell ⟨a, k, none⟩ (.slice (some ⟨g', 0, none⟩) ((Q k).length + 1) c')) := (Only.refl _ w2).setCell (.inl (by simp)) _
  have hgn : ∀ j, j < 32 → j ≠ k → g' ∉ blkOf (Ad j) := fun j hj hjk hx => by
    rcases hg with hg | hg
    · exact hfar j hj hjk _ hx hg
    · have := (h5 g' (h3 j hj g' hx)).2; omega
  refine ⟨Ad k, C k, g', c', w2, (hb.cell k).trans (hc k hk), e, h2 k hk, o2, h3 k hk, hb2.frozen k, ⟨fun i => if i = k then some ⟨g', 0, none⟩ else Ad i, fun i => if i = k then c' else C i, ⟨_, hb2.set_ k _, fun i hi => ?_⟩, fun i hi => ?_, fun i hi x hx => ?_, fun i j hi hj hij x hx => ?_, fun x hx => ?_, h6.1, ?_⟩, ?_⟩
  · by_cases hik : i = k
    · subst hik
      rw [if_pos rfl, if_pos rfl, upq_same, List.length_append]
      simp [hcz]
    · rw [if_neg hik, if_neg hik, upq_other Q k v hik, Array.getElem?_setIfInBounds_ne (by omega)]
      exact hc i hi
  · by_cases hik : i = k
    · subst hik
      rw [if_pos rfl, if_pos rfl, upq_same]
      exact r2.only oS (fun x hx => by simp [blkOf] at hx; subst hx; simpa using hga)
    · rw [if_neg hik, if_neg hik, upq_other Q k v hik]
      exact ((h2 i hi).only o2 (hfar i hi hik)).only oS (fun x hx => by have := (h5 x (h3 i hi x hx)).1; simp; omega)
  · by_cases hik : i = k
    · rw [if_pos hik] at hx
      simp only [blkOf, List.mem_singleton] at hx
      subst hx
      exact List.mem_cons_self ..
    · rw [if_neg hik] at hx
      exact List.mem_cons_of_mem _ (h3 i hi x hx)
  · by_cases hik : i = k
    · rw [if_pos hik] at hx
      simp only [blkOf, List.mem_singleton] at hx
      subst hx
      rw [if_neg (by omega)]
      exact hgn j hj (by omega)
    · rw [if_neg hik] at hx
      by_cases hjk : j = k
      · rw [if_pos hjk]
        intro hx2
        simp only [blkOf, List.mem_singleton] at hx2
        subst hx2
        exact hgn i hi hik hx
      · rw [if_neg hjk]
        exact h4 i j hi hj hij x hx
  · simp only [List.mem_cons] at hx
    rw [World.size_setCell]
    rcases hx with rfl | hx
    · exact ⟨hgB, hgw⟩
    · have := h5 x hx
      exact ⟨this.1, by omega⟩
  · rw [World.size_setCell]; omega
  · rcases hg with hg | hg
    · exact .inl (h3 k hk _ hg)
    · exact .inr (by omega)
/-! ## The law's memory -/
structure MRc (w0 w : World) (g mb a b S : Nat) (L : List Snt) (Q P : Nat → List Int) (M : Nat → Nat) (Bs X Y : List Nat) : Prop where
  sg : SG w g mb 3 S L M Bs
  qa : Arr w (b + 1) a Q X
  qb : Arr w (b + 1) b P Y
  xy : ∀ x ∈ X, x ∉ Y
  xb : ∀ x ∈ X, x ∉ Bs
  yb : ∀ x ∈ Y, x ∉ Bs
  o : Only [] w0 w
  g0 : w0.heap.size ≤ g ∧ w0.heap.size ≤ mb ∧ w0.heap.size ≤ a
  lt : g < a ∧ mb < a ∧ a < b
def MR (w0 w : World) (g mb a b S : Nat) (L : List Snt) (Q P : Nat → List Int) : Prop := ∃ M Bs X Y, MRc w0 w g mb a b S L Q P M Bs X Y
section
variable {w0 w : World} {g mb a b S : Nat} {L : List Snt} {Q P : Nat → List Int}
theorem MR.step0 {w' : World} (h : MR w0 w g mb a b S L Q P) (o : Only [] w w') : MR w0 w' g mb a b S L Q P := by
  obtain ⟨M, Bs, X, Y, h⟩ := h
  exact ⟨M, Bs, X, Y, h.sg.only0 o, h.qa.only0 o, h.qb.only0 o, h.xy, h.xb, h.yb, h.o.trans0 o, h.g0, h.lt⟩
theorem MR.inv (h : MR w0 w g mb a b S L Q P) : SInv 3 S L := by
  obtain ⟨M, Bs, X, Y, h⟩ := h
  exact h.sg.inv
theorem MR.lt (h : MR w0 w g mb a b S L Q P) : g < w.heap.size ∧ mb < w.heap.size ∧ a < w.heap.size ∧ b < w.heap.size ∧ w0.heap.size ≤ g ∧ w0.heap.size ≤ mb ∧ w0.heap.size ≤ a ∧ a < b := by
  obtain ⟨M, Bs, X, Y, h⟩ := h
  have h1 := h.qa.lt.2
  have h2 := h.g0
  have h3 := h.lt
  omega
theorem MR.o (h : MR w0 w g mb a b S L Q P) : Only [] w0 w := by
  obtain ⟨M, Bs, X, Y, h⟩ := h
  exact h.o
theorem MR.sig {w' : World} {L' : List Snt} {M : Nat → Nat} {Bs Bs' X Y : List Nat} (h : MRc w0 w g mb a b S L Q P M Bs X Y) (h' : SG w' g mb 3 S L' M Bs') (hB : ∀ x ∈ Bs', x ∈ Bs ∨ w.heap.size ≤ x) (o : Only [g, mb] w w') : MR w0 w' g mb a b S L' Q P := by
  have l1 := h.lt
  have l2 := h.qa.lt
  have l3 := h.qb.lt
  have l4 := h.g0
  refine ⟨M, Bs', X, Y, h', h.qa.only o (by simp; omega) (fun x hx => by have := (l2.1 x hx).1; simp; omega), h.qb.only o (by simp; omega) (fun x hx => by have := (l3.1 x hx).1; simp; omega), h.xy, fun x hx hb => ?_, fun x hx hb => ?_, h.o.trans o (fun x hx => .inr (by simp at hx; rcases hx with rfl | rfl <;> omega)), h.g0, h.lt⟩
  · rcases hB x hb with e | e
    · exact h.xb x hx e
    · have := (l2.1 x hx).2; omega
  · rcases hB x hb with e | e
    · exact h.yb x hx e
    · have := (l3.1 x hx).2; omega
theorem MR.send (h : MR w0 w g mb a b S L Q P) (n v : Int) : Calls Try.prog 10 #[.pointer (some ⟨g, 0, none⟩), .int .i64 1, .int .i64 n, .int .i64 v] w fun e w' => e = .returned (.int .i64 (sendC 3 S L 1 n)) ∧ MR w0 w' g mb a b S (sendL 3 S L 1 n v) Q P ∧ Only [g, mb] w w' := by
  obtain ⟨M, Bs, X, Y, h⟩ := h
  exact (send_spec h.sg 1 n v).mono fun e w' ⟨h1, ⟨Bs', h2, h4⟩, h3⟩ => ⟨h1, MR.sig h h2 h4 h3, h3⟩
theorem MR.next (h : MR w0 w g mb a b S L Q P) (W : Nat) (hW : W < 4294967296) : Calls Try.prog 11 #[.pointer (some ⟨g, 0, none⟩), .int .i64 1, .int .u32 W] w fun e w' => e = .returned (sigV (peekI 3 L 1 W)) ∧ MR w0 w' g mb a b S (nextL 3 L 1 W) Q P ∧ Only [g, mb] w w' := by
  obtain ⟨M, Bs, X, Y, h⟩ := h
  exact (next_spec h.sg 1 W hW).mono fun e w' ⟨h1, h2, h3⟩ => ⟨h1, MR.sig h h2 (fun x hx => .inl hx) h3, h3⟩
theorem MR.used (h : MR w0 w g mb a b S L Q P) : Calls Try.prog 12 #[.pointer (some ⟨g, 0, none⟩)] w fun e w' => e = .returned (.int .i64 (usedOf L : Nat)) ∧ w' = w := by
  obtain ⟨M, Bs, X, Y, h⟩ := h
  exact used_any h.sg
theorem MR.pend (h : MR w0 w g mb a b S L Q P) : Calls Try.prog 13 #[.pointer (some ⟨g, 0, none⟩), .int .i64 1] w fun e w' => e = .returned (.int .u32 (pendI L 3 1 : Nat)) ∧ w' = w := by
  obtain ⟨M, Bs, X, Y, h⟩ := h
  exact pending_any h.sg 1
theorem MR.getQ (h : MR w0 w g mb a b S L Q P) {k : Nat} (hk : k < 32) : ∃ A c, w.cell? ⟨a, k, none⟩ = some (.slice A (Q k).length c) ∧ Qr w (b + 1) A c (Q k) := by
  obtain ⟨M, Bs, X, Y, h⟩ := h
  exact h.qa.get hk
theorem MR.getP (h : MR w0 w g mb a b S L Q P) {k : Nat} (hk : k < 32) : ∃ A c, w.cell? ⟨b, k, none⟩ = some (.slice A (P k).length c) ∧ Qr w (b + 1) A c (P k) := by
  obtain ⟨M, Bs, X, Y, h⟩ := h
  exact h.qb.get hk
theorem MR.pushQ (h : MR w0 w g mb a b S L Q P) {k : Nat} (hk : k < 32) (v : Int) (hl : (Q k).length ≤ 100000) :
    ∃ A c g' c' w2, w.cell? ⟨a, k, none⟩ = some (.slice A (Q k).length c) ∧ Qr w (b + 1) A c (Q k) ∧
      (AppH #[29, 29] 29 #[.slice A (Q k).length c, .slice (some ⟨w.heap.size, 0, none⟩) 1 1]).run Try.prog (w.alloc (.cells #[.int .i64 v] 2)) = .ok (.slice (some ⟨g', 0, none⟩) ((Q k).length + 1) c') w2 ∧
      Only (blkOf A) w w2 ∧ w2.frozen? ⟨a, k, none⟩ = false ∧
      MR w0 (w2.setCell ⟨a, k, none⟩ (.slice (some ⟨g', 0, none⟩) ((Q k).length + 1) c')) g mb a b S L (upq Q k v) P := by
  obtain ⟨M, Bs, X, Y, h⟩ := h
  obtain ⟨A, c, g', c', w2, h1, h2, h3, h4, h5, h6, h7, h8⟩ := h.qa.push hk v hl
  have l1 := h.lt
  have l2 := h.qa.lt
  have l3 := h.qb.lt
  have l4 := h.g0
  have l5 := h.sg.lt
  have oo : Only (a :: X) w (w2.setCell ⟨a, k, none⟩ (.slice (some ⟨g', 0, none⟩) ((Q k).length + 1) c')) := (h4.mono (fun x hx => .inl (List.mem_cons_of_mem _ (h5 x hx)))).setCell (.inl (by simp)) _
  have hbs : ∀ x ∈ Bs, x ∉ a :: X := fun x hx hm => by
    rcases List.mem_cons.1 hm with e | hm
    · subst e
      obtain ⟨cs, hb⟩ := h.sg.bs _ hx
      obtain ⟨cs', hb'⟩ := h.qa.typ
      exact hb.ne_ hb' (by decide) rfl
    · exact h.xb x hm hx
  refine ⟨A, c, g', c', w2, h1, h3, h2, h4, h6, M, Bs, g' :: X, Y, h.sg.only oo ?_ ?_ hbs, h7, h.qb.only oo ?_ ?_, fun x hx hy => ?_, fun x hx hy => ?_, h.yb, h.o.trans oo (fun x hx => .inr ?_), h.g0, h.lt⟩
  · intro hm
    rcases List.mem_cons.1 hm with e | hm
    · omega
    · have := (l2.1 _ hm).1; omega
  · intro hm
    rcases List.mem_cons.1 hm with e | hm
    · omega
    · have := (l2.1 _ hm).1; omega
  · intro hm
    rcases List.mem_cons.1 hm with e | hm
    · omega
    · have := (l2.1 _ hm).1; omega
  · intro x hx hm
    rcases List.mem_cons.1 hm with e | hm
    · have := (l3.1 _ hx).1; omega
    · exact h.xy x hm hx
  · rcases List.mem_cons.1 hx with rfl | hx
    · rcases h8 with e | e
      · exact h.xy _ e hy
      · have := (l3.1 _ hy).2; omega
    · exact h.xy x hx hy
  · rcases List.mem_cons.1 hx with rfl | hx
    · rcases h8 with e | e
      · exact h.xb _ e hy
      · have := l5.2.2 _ hy; omega
    · exact h.xb x hx hy
  · rcases List.mem_cons.1 hx with rfl | hx
    · exact l4.2.2
    · have := (l2.1 _ hx).1; omega
theorem MR.pushP (h : MR w0 w g mb a b S L Q P) {k : Nat} (hk : k < 32) (v : Int) (hl : (P k).length ≤ 100000) :
    ∃ A c g' c' w2, w.cell? ⟨b, k, none⟩ = some (.slice A (P k).length c) ∧ Qr w (b + 1) A c (P k) ∧
      (AppH #[29, 29] 29 #[.slice A (P k).length c, .slice (some ⟨w.heap.size, 0, none⟩) 1 1]).run Try.prog (w.alloc (.cells #[.int .i64 v] 2)) = .ok (.slice (some ⟨g', 0, none⟩) ((P k).length + 1) c') w2 ∧
      Only (blkOf A) w w2 ∧ w2.frozen? ⟨b, k, none⟩ = false ∧
      MR w0 (w2.setCell ⟨b, k, none⟩ (.slice (some ⟨g', 0, none⟩) ((P k).length + 1) c')) g mb a b S L Q (upq P k v) := by
  obtain ⟨M, Bs, X, Y, h⟩ := h
  obtain ⟨A, c, g', c', w2, h1, h2, h3, h4, h5, h6, h7, h8⟩ := h.qb.push hk v hl
  have l1 := h.lt
  have l2 := h.qa.lt
  have l3 := h.qb.lt
  have l4 := h.g0
  have l5 := h.sg.lt
  have oo : Only (b :: Y) w (w2.setCell ⟨b, k, none⟩ (.slice (some ⟨g', 0, none⟩) ((P k).length + 1) c')) := (h4.mono (fun x hx => .inl (List.mem_cons_of_mem _ (h5 x hx)))).setCell (.inl (by simp)) _
  have hbs : ∀ x ∈ Bs, x ∉ b :: Y := fun x hx hm => by
    rcases List.mem_cons.1 hm with e | hm
    · subst e
      obtain ⟨cs, hb⟩ := h.sg.bs _ hx
      obtain ⟨cs', hb'⟩ := h.qb.typ
      exact hb.ne_ hb' (by decide) rfl
    · exact h.yb x hm hx
  refine ⟨A, c, g', c', w2, h1, h3, h2, h4, h6, M, Bs, X, g' :: Y, h.sg.only oo ?_ ?_ hbs, h.qa.only oo ?_ ?_, h7, fun x hx hy => ?_, h.xb, fun x hx hy => ?_, h.o.trans oo (fun x hx => .inr ?_), h.g0, h.lt⟩
  · intro hm
    rcases List.mem_cons.1 hm with e | hm
    · omega
    · have := (l3.1 _ hm).1; omega
  · intro hm
    rcases List.mem_cons.1 hm with e | hm
    · omega
    · have := (l3.1 _ hm).1; omega
  · intro hm
    rcases List.mem_cons.1 hm with e | hm
    · omega
    · have := (l3.1 _ hm).1; omega
  · intro x hx hm
    rcases List.mem_cons.1 hm with e | hm
    · have := (l2.1 _ hx).1; omega
    · exact h.xy x hx hm
  · rcases List.mem_cons.1 hy with rfl | hy
    · rcases h8 with e | e
      · exact h.xy _ hx e
      · have := (l2.1 _ hx).2; omega
    · exact h.xy x hx hy
  · rcases List.mem_cons.1 hx with rfl | hx
    · rcases h8 with e | e
      · exact h.yb _ e hy
      · have := l5.2.2 _ hy; omega
    · exact h.yb x hx hy
  · rcases List.mem_cons.1 hx with rfl | hx
    · omega
    · have := (l3.1 _ hx).1; omega
end
/-! ## The lists -/
structure PR (L : List Snt) (Q P : Nat → List Int) (i : Nat) : Prop where
  t1 : ∀ x ∈ L, x.t = 1
  q : ∀ k, 16 ≤ k → k < 32 → Q k = P k ++ queueOf L 1 k
  b : ∀ k, k < 32 → (P k).length + L.length ≤ i
theorem queue_len_le (L : List Snt) (t k : Nat) : (queueOf L t k).length ≤ L.length := by
  unfold queueOf
  rw [List.length_map]
  exact List.length_filter_le ..
theorem queue_end1 (L : List Snt) (n : Nat) (v : Int) (k : Nat) : queueOf (L ++ [⟨1, n, v⟩]) 1 k = queueOf L 1 k ++ if n = k then [v] else [] := by
  unfold queueOf
  rw [List.filter_append, List.map_append]
  congr 1
  by_cases e : n = k
  · subst e; simp [isK]
  · simp [isK, e]
theorem in31 : inT 3 1 := ⟨by decide, by decide⟩
section
variable {S i : Nat} {L : List Snt} {Q P : Nat → List Int}
theorem PR.nil (i : Nat) : PR [] (fun _ => []) (fun _ => []) i := ⟨fun x hx => by simp at hx, fun k _ _ => rfl, fun k _ => by simp⟩
theorem PR.more (h : PR L Q P i) {j : Nat} (hj : i ≤ j) : PR L Q P j := ⟨h.t1, h.q, fun k hk => by have := h.b k hk; omega⟩
theorem PR.qlen (h : PR L Q P i) {k : Nat} (h1 : 16 ≤ k) (h2 : k < 32) : (Q k).length ≤ i := by
  have := h.b k h2
  have := queue_len_le L 1 k
  rw [h.q k h1 h2, List.length_append]
  omega
theorem PR.plen (h : PR L Q P i) {k : Nat} (h2 : k < 32) : (P k).length ≤ i := by have := h.b k h2; omega
theorem sendC_zero {n : Int} (h : sendC 3 S L 1 n = 0) : 1 ≤ n ∧ n ≤ 31 := by
  unfold sendC at h
  split at h
  · simp at h
  · omega
theorem sendC_cases (n : Int) : sendC 3 S L 1 n = 0 ∨ sendC 3 S L 1 n = 2 ∨ sendC 3 S L 1 n = 5 := by
  unfold sendC
  split
  · simp
  · split <;> simp
theorem PR.send (h : PR L Q P i) {n v : Int} (h0 : sendC 3 S L 1 n = 0) (hn : 16 ≤ n) : PR (sendL 3 S L 1 n v) (upq Q n.toNat v) P (i + 1) := by
  have h31 := (sendC_zero h0).2
  unfold sendL
  rw [if_pos h0, if_neg (by omega)]
  refine ⟨fun x hx => ?_, fun k h1 h2 => ?_, fun k hk => ?_⟩
  · rcases List.mem_append.1 hx with hx | hx
    · exact h.t1 x hx
    · simp at hx; subst hx; rfl
  · show _ = P k ++ queueOf (L ++ [⟨1, n.toNat, v⟩]) 1 k
    rw [queue_end1]
    by_cases e : k = n.toNat
    · subst e
      rw [upq_same, if_pos rfl, h.q _ h1 h2, List.append_assoc]
    · rw [upq_other Q _ v e, if_neg (fun e' => e e'.symm), List.append_nil, h.q k h1 h2]
  · have := h.b k hk
    simp; omega
theorem PR.sendN (h : PR L Q P i) {n v : Int} (h0 : ¬ (sendC 3 S L 1 n = 0 ∧ 16 ≤ n)) : PR (sendL 3 S L 1 n v) Q P (i + 1) := by
  unfold sendL
  by_cases hc : sendC 3 S L 1 n = 0
  · have hn : n < 16 := by omega
    have h31 := sendC_zero hc
    rw [if_pos hc, if_pos hn]
    refine ⟨fun x hx => ?_, fun k h1 h2 => ?_, fun k hk => ?_⟩
    · unfold lowL at hx
      split at hx
      · exact h.t1 x hx
      · rcases List.mem_append.1 hx with hx | hx
        · exact h.t1 x hx
        · simp at hx; subst hx; rfl
    · rw [low_queue L _ _ (by omega) 1 k h1]; exact h.q k h1 h2
    · have := h.b k hk
      unfold lowL
      split
      · omega
      · simp; omega
  · rw [if_neg hc]
    exact h.more (by omega)
theorem PR.nextN (h : PR L Q P i) {W : Nat} (h0 : peekI 3 L 1 W = none) : PR (nextL 3 L 1 W) Q P i := by
  unfold nextL
  rw [h0]
  exact h
theorem next_facts (hi : SInv 3 S L) {W n : Nat} {x : Int} (h0 : peekI 3 L 1 W = some (n, x)) : 1 ≤ n ∧ n < 32 ∧ W.testBit n = true ∧ (n < 16 → x = 0) ∧ queueOf L 1 n = x :: queueOf (nextL 3 L 1 W) 1 n ∧ (∀ k, k ≠ n → queueOf (nextL 3 L 1 W) 1 k = queueOf L 1 k) ∧ (nextL 3 L 1 W).length + 1 = L.length ∧ ∀ y ∈ nextL 3 L 1 W, y ∈ L := by
  have hnl : nextL 3 L 1 W = takeL L 1 n := by unfold nextL; rw [h0]; rfl
  unfold peekI at h0
  rw [if_pos in31] at h0
  obtain ⟨m, hm, e⟩ := Option.map_eq_some_iff.1 h0
  simp only [Prod.mk.injEq] at e
  obtain ⟨rfl, e⟩ := e
  obtain ⟨h1, h2⟩ := nextN_some hm
  have hh : hasB L 1 m = true := h2.1
  have hl := has_lt hi hh
  have hq : queueOf L 1 m = x :: (queueOf L 1 m).tail := by
    rw [has_queue] at hh
    subst e
    show queueOf L 1 m = (queueOf L 1 m).headD 0 :: _
    cases hq : queueOf L 1 m with
    | nil => rw [hq] at hh; simp at hh
    | cons y r => rfl
  rw [hnl]
  refine ⟨hl.2.1, h1, h2.2.1, fun hlt => ?_, ?_, fun k hk => ?_, take_len hh, fun y hy => List.mem_of_mem_eraseP hy⟩
  · have := queue_vals hi hlt hh
    rw [this] at hq
    simp at hq
    exact hq.symm
  · rw [take_queue, if_pos ⟨rfl, rfl⟩]; exact hq
  · rw [take_queue, if_neg (by omega)]
theorem PR.took (h : PR L Q P i) (hi : SInv 3 S L) {W n : Nat} {x : Int} (h0 : peekI 3 L 1 W = some (n, x)) : PR (nextL 3 L 1 W) Q (upq P n x) i := by
  obtain ⟨h1, h2, h3, h4, h5, h6, h7, h8⟩ := next_facts hi h0
  refine ⟨fun y hy => h.t1 y (h8 y hy), fun k k1 k2 => ?_, fun k hk => ?_⟩
  · by_cases e : k = n
    · subst e
      rw [upq_same, h.q k k1 k2, h5, List.append_assoc]
      rfl
    · rw [upq_other P n x e, h6 k e, h.q k k1 k2]
  · have := h.b k hk
    by_cases e : k = n
    · subst e
      rw [upq_same, List.length_append]; simp; omega
    · rw [upq_other P n x e]; omega
theorem PR.low (h : PR L Q P i) (hi : SInv 3 S L) {W n : Nat} {x : Int} (h0 : peekI 3 L 1 W = some (n, x)) (hn : n < 16) : PR (nextL 3 L 1 W) Q P i := by
  obtain ⟨h1, h2, h3, h4, h5, h6, h7, h8⟩ := next_facts hi h0
  refine ⟨fun y hy => h.t1 y (h8 y hy), fun k k1 k2 => ?_, fun k hk => ?_⟩
  · rw [h6 k (by omega), h.q k k1 k2]
  · have := h.b k hk
    omega
def cnt (L : List Snt) (j : Nat) : Nat := L.countP (fun x => decide (16 ≤ x.n) && decide (x.n < j))
theorem cnt_start (L : List Snt) : cnt L 16 = 0 := by
  unfold cnt
  rw [List.countP_eq_zero]
  intro x _
  simp
theorem cnt_end (hi : SInv 3 S L) : cnt L 32 = usedOf L := by
  unfold cnt usedOf
  refine List.countP_congr (fun x hx => ?_)
  have := hi.n2 x hx
  simp [this]
theorem cnt_step {j : Nat} (h1 : 16 ≤ j) : ∀ (L : List Snt), (∀ x ∈ L, x.t = 1) → cnt L (j + 1) = cnt L j + (queueOf L 1 j).length := by
  intro L
  induction L with
  | nil => intro _; rfl
  | cons y l ih =>
    intro ht
    have := ih (fun x hx => ht x (List.mem_cons_of_mem _ hx))
    have hy := ht y (List.mem_cons_self ..)
    unfold cnt queueOf at this ⊢
    rw [List.countP_cons, List.countP_cons, List.filter_cons]
    by_cases e : y.n = j
    · have d1 : isK 1 j y = true := by simp [isK, hy, e]
      rw [if_pos d1]
      have d2 : (decide (16 ≤ y.n) && decide (y.n < j + 1)) = true := by simp; omega
      have d3 : (decide (16 ≤ y.n) && decide (y.n < j)) = false := by simp; omega
      rw [d2, d3]
      simp only [List.map_cons, List.length_cons, if_true, Bool.false_eq_true, if_false]
      omega
    · have d1 : isK 1 j y = false := by simp [isK, e]
      have d2 : (decide (16 ≤ y.n) && decide (y.n < j + 1)) = (decide (16 ≤ y.n) && decide (y.n < j)) := by
        congr 1
        exact decide_eq_decide.2 (by omega)
      rw [d1, d2]
      simp only [Bool.false_eq_true, if_false]
      omega
theorem PR.step (h : PR L Q P i) {j : Nat} (h1 : 16 ≤ j) (h2 : j < 32) : cnt L j + (Q j).length = cnt L (j + 1) + (P j).length := by
  rw [cnt_step h1 L h.t1, h.q j h1 h2, List.length_append]
  omega
theorem PR.done (h : PR L Q P i) (hi : SInv 3 S L) (h0 : peekI 3 L 1 4294967295 = none) : L = [] ∧ ∀ k, 16 ≤ k → k < 32 → Q k = P k := by
  have hL : L = [] := by
    have := (peek_all_none hi h0).2 in31
    cases L with
    | nil => rfl
    | cons y l => exact absurd (h.t1 y (List.mem_cons_self ..)) (this y (List.mem_cons_self ..))
  refine ⟨hL, fun k h1 h2 => ?_⟩
  rw [h.q k h1 h2, hL]
  simp [queueOf]
end
/-! ## How many are taken -/
def sumQ (P : Nat → List Int) (m : Nat) : Nat := ((List.range m).map (fun k => (P k).length)).sum
theorem sumQ_up (P : Nat → List Int) (n : Nat) (v : Int) : ∀ m, sumQ (upq P n v) m = sumQ P m + if n < m then 1 else 0
  | 0 => by simp [sumQ]
  | m + 1 => by
    have ih := sumQ_up P n v m
    unfold sumQ at ih ⊢
    rw [List.range_succ, List.map_append, List.map_append, List.sum_append, List.sum_append, ih]
    simp only [List.map_cons, List.map_nil, List.sum_cons, List.sum_nil]
    by_cases e : m = n
    · subst e
      rw [upq_same, List.length_append]
      simp
      omega
    · rw [upq_other P n v e]
      by_cases h : n < m
      · rw [if_pos h, if_pos (by omega)]; omega
      · rw [if_neg h, if_neg (by omega)]; omega
theorem sumQ_le (P : Nat → List Int) (c : Nat) : ∀ m, (∀ k, k < m → (P k).length ≤ c) → sumQ P m ≤ m * c
  | 0, _ => by simp [sumQ]
  | m + 1, h => by
    have ih := sumQ_le P c m (fun k hk => h k (by omega))
    have := h m (by omega)
    unfold sumQ at ih ⊢
    rw [List.range_succ, List.map_append, List.sum_append]
    simp only [List.map_cons, List.map_nil, List.sum_cons, List.sum_nil]
    rw [Nat.succ_mul]
    omega
def lenAt (w : World) (b k : Nat) : Nat := match w.cell? ⟨b, k, none⟩ with
  | some (.slice _ n _) => n
  | _ => 0
def takenAt (w : World) (b : Nat) : Nat := ((List.range 32).map (lenAt w b)).sum
theorem MR.taken {w0 w : World} {g mb a b S : Nat} {L : List Snt} {Q P : Nat → List Int} (h : MR w0 w g mb a b S L Q P) : takenAt w b = sumQ P 32 := by
  unfold takenAt sumQ
  congr 1
  refine List.map_congr_left (fun k hk => ?_)
  obtain ⟨A, c, h1, _⟩ := h.getP (List.mem_range.1 hk)
  unfold lenAt
  rw [h1]
end Go.Proofs.Ytnmlcijkggfhmaa
