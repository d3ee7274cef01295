/- Tlsf: its Realloc, New. No condition but what each theorem says. -/
import Derived.Test.YthlaoanfoimkfaaDoorTd20
import Derived.Test.YthlaoanfoimkfaaDoorTiB
namespace Go.Proofs.YthlaoanfoimkfaaDoor
open Go.RowKit
set_option linter.unusedVariables false
set_option linter.all false
set_option maxRecDepth 100000
/-- The first k bytes of a piece are copied. -/
def mcopy (M : List UInt8) (src dst : Nat) : Nat → List UInt8
  | 0 => M
  | k + 1 => (mcopy M src dst k).set (dst + k) ((mcopy M src dst k).getD (src + k) 0)
theorem mcopy_len (M : List UInt8) (src dst : Nat) : ∀ k, (mcopy M src dst k).length = M.length
  | 0 => rfl
  | k + 1 => by simp [mcopy, mcopy_len M src dst k]
section
variable {w w' w1 w2 : World} {r gB gM g1 g2 N : Nat} {B B' A C : List Bk} {b : Bk} {L L' : Nat → List Nat} {M M' : List UInt8} {S : List Nat}
variable [HAdd Unit Unit Nat]
theorem ds_free {i : Nat} (hi : A.length = i) (h : DS w r gB gM (A ++ b :: C) L M w1) (ht : Tile 112 (A ++ b :: C) N) (hN : N ≤ 65536) (hk : b.k ≠ 1) (hn : ∀ y ∈ A ++ C, y.k ≤ 1) (hl : (A ++ b :: C).length ≤ 80000) (hll : ∀ c, (L c).length ≤ 40000) :
    Calls Tryd.prog 67 #[.pointer (some ⟨r, 0, none⟩), .int .i64 i] w1 fun e w' => e = .returned (.tuple #[]) ∧ DS w r gB gM (freeS A b.at' b.size C L).1 (freeS A b.at' b.size C L).2 M w' := by
  subst hi
  obtain ⟨g1, h1, h2, h3⟩ := h
  refine (dfree_any h1 ht hN hk hn hl hll).mono ?_
  rintro e w2 ⟨rfl, D2⟩
  refine ⟨rfl, ?_⟩
  obtain ⟨g2, k1, k2, k3⟩ := D2
  exact DS.next h2 h3 k2 k1 k3
theorem DS.of0 {W : World} (H : Dr w r gB gM B L M) (o : Only [] w W) : DS w r gB gM B L M W := ⟨gB, H.only0 o, o.mono (by simp), .inl rfl⟩
theorem tile_split {z : Nat} (ht : Tile 112 (A ++ b :: C) N) (hz : 16 ≤ z) (hz8 : z % 8 = 0) (hr : 16 ≤ b.size - z) {k1 k2 : Nat} : Tile 112 ((A ++ [⟨b.at', z, k1⟩]) ++ ⟨b.at' + z, b.size - z, k2⟩ :: C) N := by
  obtain ⟨x, t1, t2, t3, t4, t5⟩ := Tile.app.1 ht
  rw [List.append_assoc]
  refine Tile.app.2 ⟨x, t1, t2, hz, hz8, ?_, ?_, ?_, ?_⟩
  · show b.at' + z = x + z; omega
  · show 16 ≤ b.size - z; exact hr
  · show (b.size - z) % 8 = 0; omega
  · show Tile (x + z + (b.size - z)) C N
    rw [show x + z + (b.size - z) = x + b.size by omega]; exact t5
/-- The tail of a cut that frees the rest. -/
theorem dre_cut {i z : Nat} (hz : 16 ≤ z) (hz8 : z % 8 = 0) (hzb : z < 100000) (ht : Tile 112 (A ++ b :: C) N) (hN : N ≤ 65536) (hn : ∀ y ∈ A ++ C, y.k ≤ 1) (hl : (A ++ b :: C).length ≤ 70000) (hll : ∀ c, (L c).length ≤ 30000) (hi : A.length = i) (hk : (b.k == 1) = false) :
    (b.size - z < 16 → ∀ w1, DS w r gB gM (A ++ b :: C) L M w1 → Calls Tryd.prog 64 #[.pointer (some ⟨r, 0, none⟩), .int .i64 i, .int .i64 z] w1 fun e w' => e = .returned (.bool false) ∧ DS w r gB gM (cutS true A b.at' b.size z C L).1 (cutS true A b.at' b.size z C L).2 M w') ∧
    (¬ b.size - z < 16 → (∀ w1, DS w r gB gM (A ++ b :: C) L M w1 → Calls Tryd.prog 64 #[.pointer (some ⟨r, 0, none⟩), .int .i64 i, .int .i64 z] w1 fun e w' => e = .returned (.bool true) ∧ DS w r gB gM (A ++ ⟨b.at', z, 0⟩ :: ⟨b.at' + z, b.size - z, 2⟩ :: C) L M w') ∧
      ∀ w1, DS w r gB gM (A ++ ⟨b.at', z, 0⟩ :: ⟨b.at' + z, b.size - z, 2⟩ :: C) L M w1 → Calls Tryd.prog 67 #[.pointer (some ⟨r, 0, none⟩), .int .i64 ((i : Int) + 1)] w1 fun e w' => e = .returned (.tuple #[]) ∧ DS w r gB gM (cutS true A b.at' b.size z C L).1 (cutS true A b.at' b.size z C L).2 M w') := by
  have hpos := ht.pos
  have hl2 := hl
  simp only [List.length_append, List.length_cons] at hl2
  refine ⟨fun hlt w1 j1 => ?_, fun hlt => ⟨fun w1 j1 => ?_, fun w1 j1 => ?_⟩⟩
  · have e0 : cutS true A b.at' b.size z C L = (A ++ ⟨b.at', b.size, 0⟩ :: C, L) := by unfold cutS; rw [if_pos hlt]
    rw [e0]
    refine (ds_split_no hi j1 (by omega) (by omega) hzb hlt).mono ?_
    rintro e w2 ⟨rfl, j2⟩
    exact ⟨rfl, j2.kind (k := 0) (by rw [hk]; rfl)⟩
  · exact ds_split_yes (k := 0) hi j1 (by omega) (by omega) (by omega) (by omega) (by rw [hk]; rfl)
  · have e0 : cutS true A b.at' b.size z C L = freeS (A ++ [⟨b.at', z, 0⟩]) (b.at' + z) (b.size - z) C L := by unfold cutS; rw [if_neg hlt]; rfl
    rw [e0]
    have hd : DS w r gB gM ((A ++ [⟨b.at', z, 0⟩]) ++ ⟨b.at' + z, b.size - z, 2⟩ :: C) L M w1 := by simpa using j1
    have := ds_free (i := i + 1) (by simp; omega) hd (tile_split ht hz hz8 (by omega)) hN (by simp) (fun y hy => by
      rcases List.mem_append.1 hy with hy | hy
      · rcases List.mem_append.1 hy with hy | hy
        · exact hn y (List.mem_append_left _ hy)
        · rw [List.mem_singleton.1 hy]; simp
      · exact hn y (List.mem_append_right _ hy)) (by simp; omega) (fun d => by have := hll d; omega)
    push_cast at this
    exact this
theorem drealloc_big {n : Nat} (H : Dr w r gB gM (A ++ b :: C) L M) (ht : Tile 112 (A ++ b :: C) N) (hN : N ≤ 65536) (hk : b.k = 0) (hn : ∀ y ∈ A ++ C, y.k ≤ 1) (hl : (A ++ b :: C).length ≤ 70000) (hll : ∀ c, (L c).length ≤ 30000) (h1 : 1 ≤ n) (h2 : n ≤ 65536) (hz : need n ≤ b.size) :
    Calls Tryd.prog 31 #[.pointer (some ⟨r, 0, none⟩), .int .i64 (b.at' + 8 : Nat), .int .i64 n] w fun e w' => e = .returned (.tuple #[.int .i64 (b.at' + 8 : Nat), .int .i64 0]) ∧ DS w r gB gM (cutS true A b.at' b.size (need n) C L).1 (cutS true A b.at' b.size (need n) C L).2 M w' := by
  have hd := need_is n
  have hz2 := hd.2.2.2 h2
  have hpos := ht.pos
  obtain ⟨cB, k0⟩ := H.cB
  have kz := (H.bl (mid_get A C b)).2.1
  have PI := dpiece_yes H (by omega) ht hN (by omega)
  have hl2 := hl
  simp only [List.length_append, List.length_cons] at hl2
  have CU := dre_cut (w := w) (r := r) (gB := gB) (gM := gM) (L := L) (M := M) (z := need n) hd.1 hd.2.1 (by omega) ht hN hn hl hll rfl (by simp [hk])
  by_cases hlt : b.size - need n < 16
  · exact dre_bign (J0 := fun _ => True) (J3 := fun _ => True) (JM := fun _ _ => True) (cs := 0) (s8 := 0) (d := 0) (ml := 0) (i2 := 0) (by omega) h1 h2 rfl (by omega) (by simp) (by omega) (by omega) (by omega) k0 kz PI hz (fun W o => DS.of0 H o) (CU.1 hlt)
  · exact dre_bigy (J0 := fun _ => True) (JM := fun _ _ => True) (cs := 0) (s8 := 0) (d := 0) (ml := 0) (i2 := 0) (by omega) h1 h2 rfl (by omega) (by simp) (by omega) (by omega) (by omega) k0 kz PI hz (fun W o => DS.of0 H o) (CU.2 hlt).1 (CU.2 hlt).2
theorem drealloc_grow {n : Nat} {c : Bk} {q : List Bk} (H : Dr w r gB gM (A ++ b :: c :: q) L M) (ht : Tile 112 (A ++ b :: c :: q) N) (hN : N ≤ 65536) (hk : b.k = 0) (hc : c.k = 1) (hn : ∀ y ∈ A ++ c :: q, y.k ≤ 1) (hl : (A ++ b :: c :: q).length ≤ 70000) (hll : ∀ c, (L c).length ≤ 30000) (h1 : 1 ≤ n) (h2 : n ≤ 65536) (hz : b.size < need n) (hz2 : need n ≤ b.size + c.size) :
    Calls Tryd.prog 31 #[.pointer (some ⟨r, 0, none⟩), .int .i64 (b.at' + 8 : Nat), .int .i64 n] w fun e w' => e = .returned (.tuple #[.int .i64 (b.at' + 8 : Nat), .int .i64 0]) ∧ DS w r gB gM (cutS true A b.at' (b.size + c.size) (need n) q (rmL L (cls c.size) c.at')).1 (cutS true A b.at' (b.size + c.size) (need n) q (rmL L (cls c.size) c.at')).2 M w' := by
  have hd := need_is n
  have hzz := hd.2.2.2 h2
  have hpos := ht.pos
  have hcm := hpos.2.2.2.2.2.2.2.2 c (by simp)
  obtain ⟨cB, k0⟩ := H.cB
  have kz := (H.bl (mid_get A (c :: q) b)).2.1
  have hget : (A ++ b :: c :: q)[A.length + 1]? = some c := by rw [List.getElem?_append_right (by omega)]; simp
  have kc := (H.bl hget).2
  rw [show (c.k == 1) = true by simp [hc]] at kc
  have PI := dpiece_yes H (by omega) ht hN (by omega)
  have hl2 := hl
  simp only [List.length_append, List.length_cons] at hl2
  have ht2 : Tile 112 (A ++ (⟨b.at', b.size + c.size, 0⟩ : Bk) :: q) N := by
    obtain ⟨x, t1, t2, t3, t4, t5, t6, t7, t8⟩ := Tile.app.1 ht
    refine Tile.app.2 ⟨x, t1, t2, ?_, ?_, ?_⟩
    · show 16 ≤ b.size + c.size; omega
    · show (b.size + c.size) % 8 = 0; omega
    · show Tile (x + (b.size + c.size)) q N
      rw [show x + (b.size + c.size) = x + b.size + c.size by omega]; exact t8
  have hr : ∀ d, (rmL L (cls c.size) c.at' d).length ≤ 30000 := fun d => Nat.le_trans (rmL_len _ _ _ _) (hll d)
  have CU := dre_cut (w := w) (r := r) (gB := gB) (gM := gM) (L := rmL L (cls c.size) c.at') (M := M) (b := ⟨b.at', b.size + c.size, 0⟩) (z := need n) hd.1 hd.2.1 (by omega) ht2 hN (fun y hy => hn y (by rcases List.mem_append.1 hy with e | e <;> simp [e])) (by simp; omega) hr rfl rfl
  have OUT : ∀ W, Only [] w W → Calls Tryd.prog 68 #[.pointer (some ⟨r, 0, none⟩), .int .i64 ((A.length : Int) + 1)] W fun e w' => e = .returned (.tuple #[]) ∧ DS w r gB gM (A ++ b :: ⟨c.at', c.size, 2⟩ :: q) (rmL L (cls c.size) c.at') M w' := fun W o => by
    have hd : DS w r gB gM ((A ++ [b]) ++ c :: q) L M W := by simpa using DS.of0 H o
    have := ds_out (i := A.length + 1) (by simp) hd (by simp; omega) (by omega) (fun d => by have := hll d; omega)
    push_cast at this
    simpa using this
  have JOIN : ∀ w1, DS w r gB gM (A ++ b :: ⟨c.at', c.size, 2⟩ :: q) (rmL L (cls c.size) c.at') M w1 → Calls Tryd.prog 69 #[.pointer (some ⟨r, 0, none⟩), .int .i64 A.length] w1 fun e w' => e = .returned (.tuple #[]) ∧ DS w r gB gM (A ++ ⟨b.at', b.size + c.size, 0⟩ :: q) (rmL L (cls c.size) c.at') M w' := fun w1 j0 =>
    ds_join (k := 0) (A := A) (b := b) (c := ⟨c.at', c.size, 2⟩) (C := q) rfl j0 (by simp; omega) (by omega) (by show c.size < 65536; omega) (by simp [hk])
  have AT : ∀ w1, DS w r gB gM (A ++ ⟨b.at', b.size + c.size, 0⟩ :: q) (rmL L (cls c.size) c.at') M w1 → ∃ g1 n1 c1, w1.cell? ⟨r, 0, none⟩ = some (.slice (some ⟨g1, 0, none⟩) n1 c1) ∧ A.length < n1 ∧ w1.cell? ⟨g1, A.length * 3 + 1, none⟩ = some (.int .i64 (b.size + c.size : Nat)) := fun w1 j1 => by
    obtain ⟨g1, n1, c1, q0, q1, q2, q3⟩ := j1.atOf
    exact ⟨g1, n1, c1, q0, q1, q3⟩
  by_cases hlt : b.size + c.size - need n < 16
  · exact dre_grown (J3 := fun _ => True) (JM := fun _ _ => True) (s8 := 0) (d := 0) (ml := 0) (i2 := 0) (by omega) h1 h2 rfl (by omega) (by simp) (by omega) (by omega) (by omega) k0 kz PI hz (by simp) kc.2 kc.1 hz2 OUT JOIN AT (CU.1 hlt)
  · exact dre_growy (JM := fun _ _ => True) (s8 := 0) (d := 0) (ml := 0) (i2 := 0) (by omega) h1 h2 rfl (by omega) (by simp) (by omega) (by omega) (by omega) k0 kz PI hz (by simp) kc.2 kc.1 hz2 OUT JOIN AT (CU.2 hlt).1 (CU.2 hlt).2
theorem drealloc_full {n : Nat} (H : Dr w r gB gM (A ++ b :: C) L M) (ht : Tile 112 (A ++ b :: C) N) (hN : N ≤ 65536) (hk : b.k = 0) (hl : (A ++ b :: C).length ≤ 70000) (h1 : 1 ≤ n) (h2 : n ≤ 65536) (hz : b.size < need n) (hs : Stuck b C (need n)) (hc : ∀ c, floor (need n) ≤ c → L c = []) :
    Calls Tryd.prog 31 #[.pointer (some ⟨r, 0, none⟩), .int .i64 (b.at' + 8 : Nat), .int .i64 n] w fun e w' => e = .returned (.tuple #[.int .i64 0, .int .i64 5]) ∧ DS w r gB gM (A ++ b :: C) L M w' := by
  have hd := need_is n
  have hzz := hd.2.2.2 h2
  have hpos := ht.pos
  obtain ⟨cB, k0⟩ := H.cB
  have kz := (H.bl (mid_get A C b)).2.1
  have PI := dpiece_yes H (by omega) ht hN (by omega)
  have hl2 := hl
  simp only [List.length_append, List.length_cons] at hl2
  have AL : ∀ W, Only [] w W → Calls Tryd.prog 24 #[.pointer (some ⟨r, 0, none⟩), .int .i64 n] W fun e w' => e = .returned (.tuple #[.int .i64 0, .int .i64 5]) ∧ DS w r gB gM (A ++ b :: C) L M w' := fun W o => by
    refine (dalloc_no (H.only0 o) h1 h2 hc).mono ?_
    rintro e w2 ⟨rfl, rfl⟩
    exact ⟨rfl, DS.of0 H o⟩
  rcases hs with rfl | ⟨c, q, rfl, hc0 | ⟨hc1, hlt⟩⟩
  · exact dre_no_e (J0 := fun _ => True) (J2 := fun _ => True) (J3 := fun _ => True) (JM := fun _ _ => True) (cs := 0) (s8 := 0) (d := 0) (ml := 0) (i2 := 0) (by omega) h1 h2 rfl (by omega) (by simp) (by omega) (by omega) (by omega) k0 kz PI hz (by simp) AL
  · have hcm := hpos.2.2.2.2.2.2.2.2 c (by simp)
    have kc := (H.bl (j := A.length + 1) (b := c) (by rw [List.getElem?_append_right (by omega)]; simp)).2
    rw [show (c.k == 1) = false by simp [hc0]] at kc
    exact dre_no_u (J0 := fun _ => True) (J2 := fun _ => True) (J3 := fun _ => True) (JM := fun _ _ => True) (s8 := 0) (d := 0) (ml := 0) (i2 := 0) (by omega) h1 h2 rfl (by omega) (by simp) (by omega) (by omega) (by omega) k0 kz PI hz (by simp) kc.2 kc.1 AL
  · have hcm := hpos.2.2.2.2.2.2.2.2 c (by simp)
    have kc := (H.bl (j := A.length + 1) (b := c) (by rw [List.getElem?_append_right (by omega)]; simp)).2
    rw [show (c.k == 1) = true by simp [hc1]] at kc
    exact dre_no_f (J0 := fun _ => True) (J2 := fun _ => True) (J3 := fun _ => True) (JM := fun _ _ => True) (s8 := 0) (d := 0) (ml := 0) (i2 := 0) (by omega) h1 h2 rfl (by omega) (by simp) (by omega) (by omega) (by omega) k0 kz PI hz (by simp) kc.2 kc.1 hlt AL
theorem DS.byteSet {i : Nat} {x : UInt8} (h : DS w r gB gM B L M w1) (hb : gM < w.heap.size) : ∃ h2 : Only [r, gB, gM] w (w1.drew.setCell ⟨gM, i, none⟩ (U8 x)), ∃ g1, Dr (w1.drew.setCell ⟨gM, i, none⟩ (U8 x)) r g1 gM B L (M.set i x) ∧ (g1 = gB ∨ w.heap.size ≤ g1) := by
  obtain ⟨g1, h1, h2, h3⟩ := h
  refine ⟨((h2.mono (by simp)).drew).setCell (.inl (by simp)) _, g1, (h1.only0 (Only.refl [] w1).drew).byteSet, h3⟩
end
end Go.Proofs.YthlaoanfoimkfaaDoor
namespace Go.Proofs.YthlaoanfoimkfaaDoor
open Go.RowKit
set_option linter.unusedVariables false
set_option linter.all false
set_option maxRecDepth 100000
/-- What a call leaves of the document's heap, its bytes too. -/
def DT [HAdd Unit Unit Nat] (w : World) (r gB gM : Nat) (B : List Bk) (L : Nat → List Nat) (M : List UInt8) (w1 : World) : Prop := ∃ g1, Dr w1 r g1 gM B L M ∧ Only [r, gB, gM] w w1 ∧ (g1 = gB ∨ w.heap.size ≤ g1)
section
variable {w w' w1 w2 : World} {r gB gM g1 g2 N : Nat} {B B' A C : List Bk} {b : Bk} {L L' : Nat → List Nat} {M M' : List UInt8} {S : List Nat}
variable [HAdd Unit Unit Nat]
theorem DS.toDT (h : DS w r gB gM B L M w1) : DT w r gB gM B L M w1 := by
  obtain ⟨g1, h1, h2, h3⟩ := h
  exact ⟨g1, h1, h2.mono (fun x hx => .inl (by simp at hx ⊢; omega)), h3⟩
theorem DT.thenS (h1 : Dr w1 r g1 gM B L M) (h2 : Only [r, gB, gM] w w1) (h3 : g1 = gB ∨ w.heap.size ≤ g1) (k : DS w1 r g1 gM B' L' M' w2) : DT w r gB gM B' L' M' w2 := by
  obtain ⟨g2, k1, k2, k3⟩ := k
  refine ⟨g2, k1, h2.trans k2 (fun x hx => ?_), ?_⟩
  · simp at hx
    rcases hx with rfl | rfl
    · exact .inl (by simp)
    · rcases h3 with e | e
      · exact .inl (by simp [e])
      · exact .inr e
  · have := h2.size
    omega
theorem DT.byteSet {i : Nat} {x : UInt8} (h : DT w r gB gM B L M w1) : DT w r gB gM B L (M.set i x) (w1.drew.setCell ⟨gM, i, none⟩ (U8 x)) := by
  obtain ⟨g1, h1, h2, h3⟩ := h
  exact ⟨g1, (h1.only0 (Only.refl [] w1).drew).byteSet, (h2.drew).setCell (.inl (by simp)) _, h3⟩
theorem drealloc_moved {n c : Nat} {A' C' A1 C1 : List Bk} {f : Bk} (H : Dr w r gB gM (A ++ b :: C) L M) (ht : Tile 112 (A ++ b :: C) N) (hN : N ≤ 65536) (hM : M.length = N) (hk : b.k = 0) (hl : (A ++ b :: C).length ≤ 70000) (hll : ∀ c, (L c).length ≤ 30000) (h1 : 1 ≤ n) (h2 : n ≤ 65536) (hz : b.size < need n) (hs : Stuck b C (need n))
    (hB : A ++ b :: C = A' ++ f :: C') (hc : FirstC L (floor (need n)) c) (hc32 : c < 32) (hd : (L c).headD 0 = f.at') (hfs : need n ≤ f.size)
    (hB1 : (cutS false A' f.at' f.size (need n) C' (rmL L (cls f.size) f.at')).1 = A1 ++ b :: C1) (ht1 : Tile 112 (A1 ++ b :: C1) N) (hn1 : ∀ y ∈ A1 ++ C1, y.k ≤ 1) (hl1 : (A1 ++ b :: C1).length ≤ 80000) (hll1 : ∀ d, ((cutS false A' f.at' f.size (need n) C' (rmL L (cls f.size) f.at')).2 d).length ≤ 40000) :
    Calls Tryd.prog 31 #[.pointer (some ⟨r, 0, none⟩), .int .i64 (b.at' + 8 : Nat), .int .i64 n] w fun e w' => e = .returned (.tuple #[.int .i64 (f.at' + 8 : Nat), .int .i64 0]) ∧
      DT w r gB gM (freeS A1 b.at' b.size C1 (cutS false A' f.at' f.size (need n) C' (rmL L (cls f.size) f.at')).2).1 (freeS A1 b.at' b.size C1 (cutS false A' f.at' f.size (need n) C' (rmL L (cls f.size) f.at')).2).2 (mcopy M (b.at' + 8) (f.at' + 8) (b.size - 8)) w' := by
  have hdn := need_is n
  have hzz := hdn.2.2.2 h2
  have hpos := ht.pos
  have htf : Tile 112 (A' ++ f :: C') N := by rw [← hB]; exact ht
  have hposf := htf.pos
  obtain ⟨cB, k0⟩ := H.cB
  have kz := (H.bl (mid_get A C b)).2.1
  have PI := dpiece_yes H (by omega) ht hN (by omega)
  have hl2 := hl
  simp only [List.length_append, List.length_cons] at hl2
  generalize hL1 : (cutS false A' f.at' f.size (need n) C' (rmL L (cls f.size) f.at')).2 = L1 at hll1 ⊢
  have AL : ∀ W, Only [] w W → Calls Tryd.prog 24 #[.pointer (some ⟨r, 0, none⟩), .int .i64 n] W fun e w' => e = .returned (.tuple #[.int .i64 (f.at' + 8 : Nat), .int .i64 0]) ∧ DT w r gB gM (A1 ++ b :: C1) L1 (mcopy M (b.at' + 8) (f.at' + 8) 0) w' := fun W o => by
    have HW := H.only0 o
    rw [hB] at HW
    refine (dalloc_yes HW (by rw [← hB]; exact hl) htf hN hll h1 h2 hc hc32 hd).mono ?_
    rintro e w2 ⟨rfl, D2⟩
    rw [hB1, hL1] at D2
    exact ⟨rfl, DT.thenS HW (o.mono (by simp)) (.inl rfl) D2⟩
  have MC : ∀ k W, DT w r gB gM (A1 ++ b :: C1) L1 (mcopy M (b.at' + 8) (f.at' + 8) k) W → k < b.size - 8 → ∃ cM v u, W.cell? ⟨r, 33, none⟩ = some (.slice (some ⟨gM, 0, none⟩) N cM) ∧ W.cell? ⟨gM, b.at' + 8 + k, none⟩ = some (.int .u8 (v : Nat)) ∧ W.cell? ⟨gM, f.at' + 8 + k, none⟩ = some (.int .u8 (u : Nat)) ∧ W.frozen? ⟨gM, f.at' + 8 + k, none⟩ = false ∧ DT w r gB gM (A1 ++ b :: C1) L1 (mcopy M (b.at' + 8) (f.at' + 8) (k + 1)) (W.drew.setCell ⟨gM, f.at' + 8 + k, none⟩ (.int .u8 (v : Nat))) := fun k W hW hk => by
    have hset := hW.byteSet (i := f.at' + 8 + k) (x := (mcopy M (b.at' + 8) (f.at' + 8) k).getD (b.at' + 8 + k) 0)
    obtain ⟨g1, d1, d2, d3⟩ := hW
    obtain ⟨cM, q0⟩ := d1.cM
    rw [mcopy_len, hM] at q0
    exact ⟨cM, _, _, q0, d1.by_ (by rw [mcopy_len]; omega), d1.by_ (by rw [mcopy_len]; omega), d1.mem.frozen _, hset⟩
  have PI2 : ∀ W, DT w r gB gM (A1 ++ b :: C1) L1 (mcopy M (b.at' + 8) (f.at' + 8) (b.size - 8)) W → Calls Tryd.prog 66 #[.pointer (some ⟨r, 0, none⟩), .int .i64 (b.at' + 8 : Nat)] W fun e w' => e = .returned (.int .i64 A1.length) ∧ W = w' := fun W ⟨g1, d1, d2, d3⟩ =>
    dpiece_yes d1 (by omega) ht1 hN (by omega)
  have FR : ∀ W, DT w r gB gM (A1 ++ b :: C1) L1 (mcopy M (b.at' + 8) (f.at' + 8) (b.size - 8)) W → Calls Tryd.prog 67 #[.pointer (some ⟨r, 0, none⟩), .int .i64 A1.length] W fun e w' => e = .returned (.tuple #[]) ∧ DT w r gB gM (freeS A1 b.at' b.size C1 L1).1 (freeS A1 b.at' b.size C1 L1).2 (mcopy M (b.at' + 8) (f.at' + 8) (b.size - 8)) w' := fun W ⟨g1, d1, d2, d3⟩ => by
    refine (dfree_any d1 ht1 hN (by omega) hn1 hl1 hll1).mono ?_
    rintro e w2 ⟨rfl, D2⟩
    exact ⟨rfl, DT.thenS d1 d2 d3 D2⟩
  rcases hs with rfl | ⟨c2, q, rfl, hc0 | ⟨hc1, hlt⟩⟩
  · exact dre_yes_e (J0 := fun _ => True) (J1 := fun _ => True) (J2 := fun _ => True) (JM := fun k W => DT w r gB gM (A1 ++ b :: C1) L1 (mcopy M (b.at' + 8) (f.at' + 8) k) W) (cs := 0) (s8 := b.size - 8) (d := f.at' + 8) (ml := N) (i2 := A1.length) (by omega) h1 h2 rfl (by omega) (by simp) (by omega) (by omega) (by omega) k0 kz PI hz (by simp) (by omega) (by omega) (by omega) AL MC PI2 FR
  · have hcm := hpos.2.2.2.2.2.2.2.2 c2 (by simp)
    have kc := (H.bl (j := A.length + 1) (b := c2) (by rw [List.getElem?_append_right (by omega)]; simp)).2
    rw [show (c2.k == 1) = false by simp [hc0]] at kc
    exact dre_yes_u (J0 := fun _ => True) (J1 := fun _ => True) (J2 := fun _ => True) (JM := fun k W => DT w r gB gM (A1 ++ b :: C1) L1 (mcopy M (b.at' + 8) (f.at' + 8) k) W) (s8 := b.size - 8) (d := f.at' + 8) (ml := N) (i2 := A1.length) (by omega) h1 h2 rfl (by omega) (by simp) (by omega) (by omega) (by omega) k0 kz PI hz (by simp) kc.2 kc.1 (by omega) (by omega) (by omega) AL MC PI2 FR
  · have hcm := hpos.2.2.2.2.2.2.2.2 c2 (by simp)
    have kc := (H.bl (j := A.length + 1) (b := c2) (by rw [List.getElem?_append_right (by omega)]; simp)).2
    rw [show (c2.k == 1) = true by simp [hc1]] at kc
    exact dre_yes_f (J0 := fun _ => True) (J1 := fun _ => True) (J2 := fun _ => True) (JM := fun k W => DT w r gB gM (A1 ++ b :: C1) L1 (mcopy M (b.at' + 8) (f.at' + 8) k) W) (s8 := b.size - 8) (d := f.at' + 8) (ml := N) (i2 := A1.length) (by omega) h1 h2 rfl (by omega) (by simp) (by omega) (by omega) (by omega) k0 kz PI hz (by simp) kc.2 kc.1 hlt (by omega) (by omega) (by omega) AL MC PI2 FR
end
end Go.Proofs.YthlaoanfoimkfaaDoor
namespace Go.Proofs.YthlaoanfoimkfaaDoor
open Go.RowKit
set_option linter.unusedVariables false
set_option linter.all false
set_option maxRecDepth 100000
section
variable {w w' w1 w2 : World} {r gB gM g1 g2 N : Nat} {B B' A C : List Bk} {b : Bk} {L L' : Nat → List Nat} {M M' : List UInt8} {S : List Nat}
variable [HAdd Unit Unit Nat]
set_option maxHeartbeats 2000000 in
theorem dnew_walk (hN : 256 ≤ N ∧ N ≤ 65536) {J : World → Prop} {X : Array Value}
    (hmk : ∀ W : World, (Instr.makeSlice 38 (.int .i64 (N : Int)) (.int .i64 (N : Int))).run Tryd.prog W = .ok (.slice (some ⟨W.heap.size, 0, none⟩) N N) (W.alloc (.cells X 5)))
    (PUT : Calls Tryd.prog 22 #[.pointer (some ⟨w.heap.size + 1, 0, none⟩), .int .i64 0] (((w.alloc (.cells X 5)).alloc (.cells #[.slice (some ⟨w.heap.size + 1 + 1, 0, none⟩) 1 1, .slice none 0 0, .slice none 0 0, .slice none 0 0, .slice none 0 0, .slice none 0 0, .slice none 0 0, .slice none 0 0, .slice none 0 0, .slice none 0 0, .slice none 0 0, .slice none 0 0, .slice none 0 0, .slice none 0 0, .slice none 0 0, .slice none 0 0, .slice none 0 0, .slice none 0 0, .slice none 0 0, .slice none 0 0, .slice none 0 0, .slice none 0 0, .slice none 0 0, .slice none 0 0, .slice none 0 0, .slice none 0 0, .slice none 0 0, .slice none 0 0, .slice none 0 0, .slice none 0 0, .slice none 0 0, .slice none 0 0, .slice none 0 0, .slice (some ⟨w.heap.size, 0, none⟩) N N] 40)).alloc (.cells #[.int .i64 112, .int .i64 ((N : Int) - 112), .bool true] 42)) fun e w' => e = .returned (.tuple #[]) ∧ J w') :
    Calls Tryd.prog 7 #[.int .i64 N] w fun e w' => e = .returned (.pointer (some ⟨w.heap.size + 1, 0, none⟩)) ∧ J w' := by
  replace PUT := Lib.hid PUT
  go_enter Tryd.func7, Tryd.ntmps7
  go_wp2_with (first
    | (go_at_call 22; refine PUT.out.mono ?_; rintro e w1 ⟨rfl, j1⟩))
  go_ret
  exact ⟨by simp, j1⟩
theorem dnew_any (hX : xc < w.heap.size) (hN : 256 ≤ N ∧ N ≤ 65536 ∧ N % 8 = 0) : Calls Tryd.prog 7 #[.int .i64 N] w fun e w' => ∃ r gB gM, e = .returned (.pointer (some ⟨r, 0, none⟩)) ∧ Only [] w w' ∧
    Dr w' r gB gM [⟨112, N - 112, 1⟩] (insL (fun _ => []) (cls (N - 112)) 112) (List.replicate N 0) ∧ w.heap.size ≤ r ∧ w.heap.size ≤ gB ∧ w.heap.size ≤ gM := by
  obtain ⟨i0, hi, hz0, hz1, hz2⟩ := info_parts u8_info
  have hmk : ∀ W : World, (Instr.makeSlice 38 (.int .i64 (N : Int)) (.int .i64 (N : Int))).run Tryd.prog W = .ok (.slice (some ⟨W.heap.size, 0, none⟩) N N) (W.alloc (.cells (madeCells #[.int .u8 0] N) 5)) := fun W => by
    have h := run_make (P := Tryd.prog) W 38 5 i0 (.int .u8 0) Tryd.underlying38 hi hz0 .i64 .i64 N N (by omega) (by omega) (by rw [hz2]; omega) (by omega)
    rw [hz1] at h
    simpa [Value.cells] using h
  have hm : madeCells #[Value.int .u8 0] N = (U8s (List.replicate N 0)).toArray := by
    apply Array.toList_inj.1
    rw [toList_madeCells_one]
    simp [U8s, U8]
  rw [hm] at hmk
  obtain ⟨X, hXX⟩ : ∃ X, (U8s (List.replicate N 0)).toArray = X := ⟨_, rfl⟩
  rw [hXX] at hmk
  have oW : Only [] w (((w.alloc (.cells X 5)).alloc (.cells #[.slice (some ⟨w.heap.size + 1 + 1, 0, none⟩) 1 1, .slice none 0 0, .slice none 0 0, .slice none 0 0, .slice none 0 0, .slice none 0 0, .slice none 0 0, .slice none 0 0, .slice none 0 0, .slice none 0 0, .slice none 0 0, .slice none 0 0, .slice none 0 0, .slice none 0 0, .slice none 0 0, .slice none 0 0, .slice none 0 0, .slice none 0 0, .slice none 0 0, .slice none 0 0, .slice none 0 0, .slice none 0 0, .slice none 0 0, .slice none 0 0, .slice none 0 0, .slice none 0 0, .slice none 0 0, .slice none 0 0, .slice none 0 0, .slice none 0 0, .slice none 0 0, .slice none 0 0, .slice none 0 0, .slice (some ⟨w.heap.size, 0, none⟩) N N] 40)).alloc (.cells #[.int .i64 112, .int .i64 ((N : Int) - 112), .bool true] 42)) := (((Only.refl [] w).alloc _).alloc _).alloc _
  have bM : Blk (((w.alloc (.cells X 5)).alloc (.cells #[.slice (some ⟨w.heap.size + 1 + 1, 0, none⟩) 1 1, .slice none 0 0, .slice none 0 0, .slice none 0 0, .slice none 0 0, .slice none 0 0, .slice none 0 0, .slice none 0 0, .slice none 0 0, .slice none 0 0, .slice none 0 0, .slice none 0 0, .slice none 0 0, .slice none 0 0, .slice none 0 0, .slice none 0 0, .slice none 0 0, .slice none 0 0, .slice none 0 0, .slice none 0 0, .slice none 0 0, .slice none 0 0, .slice none 0 0, .slice none 0 0, .slice none 0 0, .slice none 0 0, .slice none 0 0, .slice none 0 0, .slice none 0 0, .slice none 0 0, .slice none 0 0, .slice none 0 0, .slice none 0 0, .slice (some ⟨w.heap.size, 0, none⟩) N N] 40)).alloc (.cells #[.int .i64 112, .int .i64 ((N : Int) - 112), .bool true] 42)) w.heap.size 5 X := ((Blk.new w 5 X).alloc _).alloc _
  have bR : Blk (((w.alloc (.cells X 5)).alloc (.cells #[.slice (some ⟨w.heap.size + 1 + 1, 0, none⟩) 1 1, .slice none 0 0, .slice none 0 0, .slice none 0 0, .slice none 0 0, .slice none 0 0, .slice none 0 0, .slice none 0 0, .slice none 0 0, .slice none 0 0, .slice none 0 0, .slice none 0 0, .slice none 0 0, .slice none 0 0, .slice none 0 0, .slice none 0 0, .slice none 0 0, .slice none 0 0, .slice none 0 0, .slice none 0 0, .slice none 0 0, .slice none 0 0, .slice none 0 0, .slice none 0 0, .slice none 0 0, .slice none 0 0, .slice none 0 0, .slice none 0 0, .slice none 0 0, .slice none 0 0, .slice none 0 0, .slice none 0 0, .slice none 0 0, .slice (some ⟨w.heap.size, 0, none⟩) N N] 40)).alloc (.cells #[.int .i64 112, .int .i64 ((N : Int) - 112), .bool true] 42)) (w.heap.size + 1) 40 ([Value.slice (some ⟨w.heap.size + 1 + 1, 0, none⟩) 1 1] ++ List.replicate 32 (Value.slice none 0 0) ++ [Value.slice (some ⟨w.heap.size, 0, none⟩) N N]).toArray := by
    have := (Blk.new (w.alloc (.cells X 5)) 40 #[.slice (some ⟨w.heap.size + 1 + 1, 0, none⟩) 1 1, .slice none 0 0, .slice none 0 0, .slice none 0 0, .slice none 0 0, .slice none 0 0, .slice none 0 0, .slice none 0 0, .slice none 0 0, .slice none 0 0, .slice none 0 0, .slice none 0 0, .slice none 0 0, .slice none 0 0, .slice none 0 0, .slice none 0 0, .slice none 0 0, .slice none 0 0, .slice none 0 0, .slice none 0 0, .slice none 0 0, .slice none 0 0, .slice none 0 0, .slice none 0 0, .slice none 0 0, .slice none 0 0, .slice none 0 0, .slice none 0 0, .slice none 0 0, .slice none 0 0, .slice none 0 0, .slice none 0 0, .slice none 0 0, .slice (some ⟨w.heap.size, 0, none⟩) N N]).alloc (.cells #[.int .i64 112, .int .i64 ((N : Int) - 112), .bool true] 42)
    simp only [World.size_alloc] at this
    exact this
  have bB : Blk (((w.alloc (.cells X 5)).alloc (.cells #[.slice (some ⟨w.heap.size + 1 + 1, 0, none⟩) 1 1, .slice none 0 0, .slice none 0 0, .slice none 0 0, .slice none 0 0, .slice none 0 0, .slice none 0 0, .slice none 0 0, .slice none 0 0, .slice none 0 0, .slice none 0 0, .slice none 0 0, .slice none 0 0, .slice none 0 0, .slice none 0 0, .slice none 0 0, .slice none 0 0, .slice none 0 0, .slice none 0 0, .slice none 0 0, .slice none 0 0, .slice none 0 0, .slice none 0 0, .slice none 0 0, .slice none 0 0, .slice none 0 0, .slice none 0 0, .slice none 0 0, .slice none 0 0, .slice none 0 0, .slice none 0 0, .slice none 0 0, .slice none 0 0, .slice (some ⟨w.heap.size, 0, none⟩) N N] 40)).alloc (.cells #[.int .i64 112, .int .i64 ((N : Int) - 112), .bool true] 42)) (w.heap.size + 1 + 1) 42 #[.int .i64 112, .int .i64 ((N : Int) - 112), .bool true] := by
    have := Blk.new ((w.alloc (.cells X 5)).alloc (.cells #[.slice (some ⟨w.heap.size + 1 + 1, 0, none⟩) 1 1, .slice none 0 0, .slice none 0 0, .slice none 0 0, .slice none 0 0, .slice none 0 0, .slice none 0 0, .slice none 0 0, .slice none 0 0, .slice none 0 0, .slice none 0 0, .slice none 0 0, .slice none 0 0, .slice none 0 0, .slice none 0 0, .slice none 0 0, .slice none 0 0, .slice none 0 0, .slice none 0 0, .slice none 0 0, .slice none 0 0, .slice none 0 0, .slice none 0 0, .slice none 0 0, .slice none 0 0, .slice none 0 0, .slice none 0 0, .slice none 0 0, .slice none 0 0, .slice none 0 0, .slice none 0 0, .slice none 0 0, .slice none 0 0, .slice (some ⟨w.heap.size, 0, none⟩) N N] 40)) 42 #[.int .i64 112, .int .i64 ((N : Int) - 112), .bool true]
    simp only [World.size_alloc] at this
    exact this
  obtain ⟨W3, hW3⟩ : ∃ W3, (((w.alloc (.cells X 5)).alloc (.cells #[.slice (some ⟨w.heap.size + 1 + 1, 0, none⟩) 1 1, .slice none 0 0, .slice none 0 0, .slice none 0 0, .slice none 0 0, .slice none 0 0, .slice none 0 0, .slice none 0 0, .slice none 0 0, .slice none 0 0, .slice none 0 0, .slice none 0 0, .slice none 0 0, .slice none 0 0, .slice none 0 0, .slice none 0 0, .slice none 0 0, .slice none 0 0, .slice none 0 0, .slice none 0 0, .slice none 0 0, .slice none 0 0, .slice none 0 0, .slice none 0 0, .slice none 0 0, .slice none 0 0, .slice none 0 0, .slice none 0 0, .slice none 0 0, .slice none 0 0, .slice none 0 0, .slice none 0 0, .slice none 0 0, .slice (some ⟨w.heap.size, 0, none⟩) N N] 40)).alloc (.cells #[.int .i64 112, .int .i64 ((N : Int) - 112), .bool true] 42)) = W3 := ⟨_, rfl⟩
  rw [hW3] at oW bM bR bB
  have D3 : Dr W3 (w.heap.size + 1) (w.heap.size + 1 + 1) w.heap.size ([] ++ ⟨112, N - 112, 2⟩ :: []) (fun _ => []) (List.replicate N 0) ∨ Dr W3 (w.heap.size + 1) (w.heap.size + 1 + 1) w.heap.size ([] ++ ⟨112, N - 112, 1⟩ :: []) (fun _ => []) (List.replicate N 0) := by
    right
    refine ⟨⟨_, fun _ => none, fun _ => 0, 0, N, bR, by simp, ⟨by simp, by simp⟩, ?_, fun i hi => ⟨?_, fun h => absurd h (by simp)⟩⟩, ⟨_, bB, fun j b hj => ?_⟩, by rw [hXX]; exact bM, Nat.lt_of_lt_of_le hX oW.size⟩
    · rw [List.getElem?_toArray, List.getElem?_append_right (by simp)]
      simp
    · rw [List.getElem?_toArray, List.getElem?_append_left (by simp; omega), List.getElem?_append_right (by simp)]
      show (List.replicate 32 (Value.slice none 0 0))[1 + i - 1]? = _
      rw [List.getElem?_replicate, if_pos (by omega)]
      rfl
    · rcases j with _ | j
      · simp at hj
        subst hj
        have : ((N - 112 : Nat) : Int) = (N : Int) - 112 := by omega
        simp [this]
      · simp at hj
  have D3 := D3.resolve_left (fun h => by
    have := (h.bl (mid_get [] [] ⟨112, N - 112, 2⟩)).2.2
    have h2 := bB.cell 2
    rw [show (([] : List Bk).length * 3 + 2) = 2 from rfl, h2] at this
    simp at this)
  have P := dput_any (A := []) (b := ⟨112, N - 112, 1⟩) (C := []) D3 (by simp) (by show 16 ≤ N - 112 ∧ N - 112 < 65536; omega) (fun c => by simp)
  refine (dnew_walk ⟨hN.1, hN.2.1⟩ hmk (J := fun w' => Only [] w w' ∧ Dr w' (w.heap.size + 1) (w.heap.size + 1 + 1) w.heap.size [⟨112, N - 112, 1⟩] (insL (fun _ => []) (cls (N - 112)) 112) (List.replicate N 0)) (by
    rw [hW3]
    refine P.mono ?_
    rintro e w2 ⟨rfl, o2, D2⟩
    exact ⟨rfl, oW.trans o2 (fun x hx => .inr (by simp at hx; omega)), D2⟩)).mono ?_
  rintro e w2 ⟨rfl, o2, D2⟩
  exact ⟨_, _, _, rfl, o2, D2, by omega, by omega, by omega⟩
end
end Go.Proofs.YthlaoanfoimkfaaDoor
