/- Tlsf: do, kinds 1, 2, 4. No condition but what each theorem says. -/
import Derived.Test.YthlaoanfoimkfaaDoorTlA
import Derived.Test.YthlaoanfoimkfaaDoorTl5
import Derived.Test.YthlaoanfoimkfaaDoorTl6
namespace Go.Proofs.YthlaoanfoimkfaaDoor
open Go.RowKit
set_option linter.unusedVariables false
set_option linter.all false
set_option maxRecDepth 100000
section
variable {w w' : World} {h g gb cap mb N p size z p0 : Nat} {A C B B' : List Bk} {b c y : Bk} {L L' : Nat → List Nat} {m m' m1 : Nat → Nat} {M M' : List UInt8}
/-- What is used behind a cut. -/
theorem cut_mem {fr : Bool} (hy : y ∈ (cutS fr A p size z C L).1) (hk : y.k = 0) : y ∈ A ++ C ∨ (y = ⟨p, z, 0⟩ ∧ ¬ size - z < 16) ∨ (y = ⟨p, size, 0⟩ ∧ size - z < 16) := by
  unfold cutS at hy
  by_cases h : size - z < 16
  · rw [if_pos h] at hy
    rcases List.mem_append.1 hy with hy | hy
    · exact .inl (List.mem_append_left _ hy)
    · rcases List.mem_cons.1 hy with rfl | hy
      · exact .inr (.inr ⟨rfl, h⟩)
      · exact .inl (List.mem_append_right _ hy)
  · rw [if_neg h] at hy
    have key : y ∈ (A ++ [⟨p, z, 0⟩]) ++ C → y ∈ A ++ C ∨ (y = ⟨p, z, 0⟩ ∧ ¬ size - z < 16) ∨ (y = ⟨p, size, 0⟩ ∧ size - z < 16) := fun hy => by
      rcases List.mem_append.1 hy with hy | hy
      · rcases List.mem_append.1 hy with hy | hy
        · exact .inl (List.mem_append_left _ hy)
        · exact .inr (.inl ⟨List.mem_singleton.1 hy, h⟩)
      · exact .inl (List.mem_append_right _ hy)
    cases fr with
    | true =>
      rw [if_pos rfl] at hy
      rcases (freeS_used _ _ _ _ _).2 y hy with q | q
      · exact key q
      · omega
    | false =>
      rw [if_neg (by simp)] at hy
      unfold putS at hy
      rcases List.mem_append.1 hy with q | q
      · exact key (List.mem_append_left _ q)
      · rcases List.mem_cons.1 q with rfl | q
        · simp at hk
        · exact key (List.mem_append_right _ q)
theorem cut_has (fr : Bool) : ∃ y ∈ (cutS fr A p size z C L).1, y.k = 0 ∧ y.at' = p := by
  have := (cutS_used fr A p size z C L).1
  have hm : p + 8 ∈ used (cutS fr A p size z C L).1 := by rw [this]; simp
  obtain ⟨y, hy, hk, e⟩ := mem_used.1 hm
  exact ⟨y, hy, hk, by omega⟩
theorem cut_kind {fr : Bool} (h : ∀ y ∈ A ++ C, y.k ≤ 1) : ∀ y ∈ (cutS fr A p size z C L).1, y.k ≤ 1 := fun y hy => by
  rcases (cutS_used fr A p size z C L).2 y hy with q | q | q
  · exact h y q
  · omega
  · omega
theorem ag_old (ht : Tile 112 (A ++ b :: C) N) (hag : Ag (A ++ b :: C) m M) (hy : y ∈ A ++ C) (hk : y.k = 0) {x : Nat} (h4 : x % 4 = 0) (h1 : y.at' + 8 ≤ x) (h2 : x < y.at' + y.size) : Off (A ++ b :: C) x ∧ (x < b.at' ∨ b.at' + b.size ≤ x) ∧ wd M x = m x := by
  have hm : y ∈ A ++ b :: C := by rcases List.mem_append.1 hy with q | q <;> simp [q]
  have hp := ht.pos
  refine ⟨Off.of_used ht hm hk h1 h2, ?_, hag y hm hk x h4 h1 h2⟩
  rcases List.mem_append.1 hy with q | q
  · have := hp.2.2.2.2.2.2.2.1 y q
    omega
  · have := hp.2.2.2.2.2.2.2.2 y q
    omega
theorem ag_cut (ht : Tile 112 (A ++ b :: C) N) (hag : Ag (A ++ b :: C) m M) (hfr : ∀ x, Off (A ++ b :: C) x → (x < b.at' ∨ b.at' + b.size ≤ x) → m' x = m x) (hmem : ∀ y ∈ B', y.k = 0 → y ∈ A ++ C ∨ y.at' = p0) : AgX B' m' M p0 0 := fun y hy hk x h4 h1 h2 h3 => by
  rcases hmem y hy hk with q | q
  · obtain ⟨o1, o2, e⟩ := ag_old ht hag q hk h4 h1 h2
    rw [e, hfr x o1 o2]
  · have := h3 q
    omega
theorem ag_free (ht : Tile 112 (A ++ b :: C) N) (hag : Ag (A ++ b :: C) m M) (hfr : ∀ x, Off (A ++ b :: C) x → (x < b.at' ∨ b.at' + b.size ≤ x) → m' x = m x) (hmem : ∀ y ∈ B', y.k = 0 → y ∈ A ++ C) : Ag B' m' M := fun y hy hk x h4 h1 h2 => by
  obtain ⟨o1, o2, e⟩ := ag_old ht hag (hmem y hy hk) hk h4 h1 h2
  rw [e, hfr x o1 o2]
/-- A piece that is cut down, or kept. -/
theorem ag_big (ht : Tile 112 (A ++ b :: C) N) (hk : b.k = 0) (hag : Ag (A ++ b :: C) m M) (hfr : ∀ x, Off (A ++ b :: C) x → (x < b.at' + z ∨ b.at' + b.size ≤ x) → m' x = m x) (hz : z ≤ b.size) (hmem : ∀ y ∈ B', y.k = 0 → y ∈ A ++ C ∨ y = ⟨b.at', z, 0⟩) : Ag B' m' M := fun y hy hky x h4 h1 h2 => by
  rcases hmem y hy hky with q | q
  · obtain ⟨o1, o2, e⟩ := ag_old ht hag q hky h4 h1 h2
    rw [e, hfr x o1 (by omega)]
  · subst q
    dsimp only at h1 h2
    rw [hfr x (Off.of_used ht (b := b) (by simp) hk h1 (by omega)) (.inl h2)]
    exact hag b (by simp) hk x h4 h1 (by omega)
/-- A piece that has grown into the block behind it. -/
theorem ag_grow {r : List Bk} (ht : Tile 112 (A ++ b :: c :: r) N) (hk : b.k = 0) (hag : Ag (A ++ b :: c :: r) m M) (hfr : ∀ x, Off (A ++ b :: c :: r) x → (x < b.at' + z ∨ b.at' + b.size + c.size ≤ x) → m' x = m x) (hz : b.size < z) (hmem : ∀ y ∈ B', y.k = 0 → y ∈ A ++ r ∨ y.at' = b.at') : AgX B' m' M b.at' (b.size - 8) := fun y hy hky x h4 h1 h2 h3 => by
  have hp := ht.pos
  rcases hmem y hy hky with q | q
  · have hm : y ∈ A ++ b :: c :: r := by rcases List.mem_append.1 q with q | q <;> simp [q]
    rw [hfr x (Off.of_used ht hm hky h1 h2) ?_]
    · exact hag y hm hky x h4 h1 h2
    · rcases List.mem_append.1 q with q | q
      · have := hp.2.2.2.2.2.2.2.1 y q
        omega
      · have t2 : Tile 112 ((A ++ [b]) ++ c :: r) N := by simpa using ht
        have := t2.pos.2.2.2.2.2.2.2.2 y q
        have e : c.at' = b.at' + b.size := hp.2.2.2.2.2.2.1.1
        omega
  · have := h3 q
    rw [hfr x (Off.of_used ht (b := b) (by simp) hk (by omega) (by omega)) (.inl (by omega))]
    exact hag b (by simp) hk x h4 (by omega) (by omega)
/-! ## The document's copy of a piece -/
theorem byt_mcopy {src dst : Nat} (y : Nat) : ∀ (k : Nat), src + k ≤ M.length → dst + k ≤ M.length → (src + k ≤ dst ∨ dst + k ≤ src) → byt (mcopy M src dst k) y = if dst ≤ y ∧ y < dst + k then byt M (src + (y - dst)) else byt M y
  | 0, _, _, _ => by rw [if_neg (by omega)]; rfl
  | k + 1, h1, h2, h3 => by
    show byt ((mcopy M src dst k).set (dst + k) ((mcopy M src dst k).getD (src + k) 0)) y = _
    rw [byt_set (by rw [mcopy_len]; omega)]
    have e : ((mcopy M src dst k).getD (src + k) 0).toNat = byt M (src + k) := by
      show byt (mcopy M src dst k) (src + k) = _
      rw [byt_mcopy (src + k) k (by omega) (by omega) (by omega), if_neg (by omega)]
    by_cases e1 : y = dst + k
    · rw [if_pos e1, e, if_pos (by omega), e1, Nat.add_sub_cancel_left]
    · rw [if_neg e1, byt_mcopy y k (by omega) (by omega) (by omega)]
      by_cases e2 : dst ≤ y ∧ y < dst + k
      · rw [if_pos e2, if_pos (by omega)]
      · rw [if_neg e2, if_neg (by omega)]
theorem wd_mcopy {src dst n : Nat} (h1 : src + n ≤ M.length) (h2 : dst + n ≤ M.length) (h3 : src + n ≤ dst ∨ dst + n ≤ src) (hs : src % 4 = 0) (hd : dst % 4 = 0) (hn : n % 4 = 0) {x : Nat} (hx : x % 4 = 0) : wd (mcopy M src dst n) x = if dst ≤ x ∧ x < dst + n then wd M (src + (x - dst)) else wd M x := by
  unfold wd
  rw [if_pos hx]
  have f := fun y => byt_mcopy (M := M) y n h1 h2 h3
  by_cases e : dst ≤ x ∧ x < dst + n
  · rw [if_pos e, f, f, f, f, if_pos e, if_pos (by omega), if_pos (by omega), if_pos (by omega), if_pos (by omega)]
    rw [show src + (x + 1 - dst) = src + (x - dst) + 1 by omega, show src + (x + 2 - dst) = src + (x - dst) + 2 by omega, show src + (x + 3 - dst) = src + (x - dst) + 3 by omega]
  · rw [if_neg e, f, f, f, f, if_neg e, if_neg (by omega), if_neg (by omega), if_neg (by omega), if_pos hx]
/-- A piece that has moved. -/
theorem ag_moved {A1 C1 : List Bk} {f : Bk} {m1 : Nat → Nat} (ht : Tile 112 (A ++ b :: C) N) (hM : M.length = N) (hk : b.k = 0) (hf : f ∈ A ++ b :: C) (hfk : f.k = 1) (hag : Ag (A ++ b :: C) m M) (hfs : b.size ≤ f.size)
    (h1 : ∀ x, Off (A ++ b :: C) x → (x < f.at' ∨ f.at' + f.size ≤ x) → m1 x = m x) (ht1 : Tile 112 (A1 ++ b :: C1) N) (h2 : ∀ x, Off (A1 ++ b :: C1) x → (x < b.at' ∨ b.at' + b.size ≤ x) → m' x = copyW m1 (b.at' + 8) (f.at' + 8) (b.size - 8) x)
    (hmem1 : ∀ y ∈ A1 ++ C1, y.k = 0 → y ∈ A ++ b :: C ∨ y.at' = f.at') (hmem : ∀ y ∈ B', y.k = 0 → y ∈ A1 ++ C1) : AgX B' m' (mcopy M (b.at' + 8) (f.at' + 8) (b.size - 8)) f.at' (b.size - 8) := fun y hy hky x h4 hx1 hx2 hx3 => by
  have hbm : b ∈ A ++ b :: C := by simp
  have tb := Tile.mem ht b hbm
  have tf := Tile.mem ht f hf
  have hbf : b.at' + b.size ≤ f.at' ∨ f.at' + f.size ≤ b.at' := by
    have hp := ht.pos
    rcases List.mem_append.1 hf with q | q
    · have := hp.2.2.2.2.2.2.2.1 f q
      omega
    · rcases List.mem_cons.1 q with e | q
      · rw [e] at hfk; omega
      · have := hp.2.2.2.2.2.2.2.2 f q
        omega
  have hy1 := hmem y hy hky
  have hym : y ∈ A1 ++ b :: C1 := by rcases List.mem_append.1 hy1 with q | q <;> simp [q]
  have hyb : y.at' + y.size ≤ b.at' ∨ b.at' + b.size ≤ y.at' := by
    have hp := ht1.pos
    rcases List.mem_append.1 hy1 with q | q
    · have := hp.2.2.2.2.2.2.2.1 y q
      omega
    · have := hp.2.2.2.2.2.2.2.2 y q
      omega
  rw [wd_mcopy (by omega) (by omega) (by omega) (by omega) (by omega) (by omega) h4, h2 x (Off.of_used ht1 hym hky hx1 hx2) (by omega)]
  unfold copyW
  rcases hmem1 y hy1 hky with q | q
  · have hyf : y.at' + y.size ≤ f.at' ∨ f.at' + f.size ≤ y.at' := by
      obtain ⟨A2, C2, e⟩ := List.append_of_mem hf
      rw [e] at q ht
      have hp := ht.pos
      rcases List.mem_append.1 q with q | q
      · have := hp.2.2.2.2.2.2.2.1 y q
        omega
      · rcases List.mem_cons.1 q with e2 | q
        · rw [e2] at hky; omega
        · have := hp.2.2.2.2.2.2.2.2 y q
          omega
    rw [if_neg (by omega), if_neg (by omega), h1 x (Off.of_used ht q hky hx1 hx2) (by omega)]
    exact hag y q hky x h4 hx1 hx2
  · have := hx3 q
    rw [if_pos (by omega), if_pos (by omega), show x - (f.at' + 8) + (b.at' + 8) = b.at' + 8 + (x - (f.at' + 8)) by omega]
    rw [h1 _ (Off.of_used ht hbm hk (by omega) (by omega)) (by omega)]
    exact hag b hbm hk _ (by omega) (by omega) (by omega)
/-- Realloc where the rest is too small for a block of its own: nothing is written. -/
theorem realloc_same (H : Hp w h g gb cap mb N (A ++ b :: C) L m) (hk : b.k = 0) {n : Nat} (h1 : 1 ≤ n) (h2 : n ≤ 65536) (hz : need n ≤ b.size) (hlt : b.size - need n < 16) :
    Calls Tryd.prog 19 #[.pointer (some ⟨h, 0, none⟩), .int .i64 (b.at' + 8 : Nat), .int .i64 n] w fun e w' => e = .returned (.tuple #[.int .i64 (b.at' + 8 : Nat), .int .i64 0]) ∧ Only [g, gb, mb] w w' ∧ ∃ m',
      Hp w' h g gb cap mb N (cutS true A b.at' b.size (need n) C L).1 (cutS true A b.at' b.size (need n) C L).2 m' ∧ ∀ x, Off (A ++ b :: C) x → m' x = m x := by
  have hb := H.bounds
  have hn := need_is n
  have hne := H.ne
  have hac := H.others
  obtain ⟨U, hP, hU⟩ := H.pc
  have hin : b.at' + 8 ∈ U := hU.mem_iff.2 (mem_used.2 ⟨b, by simp, hk, rfl⟩)
  have hU2 : (addU U (b.at' + 8)).Perm (used A ++ (b.at' + 8) :: used C) := by
    unfold addU
    rw [if_pos hin]
    have e : used (A ++ b :: C) = used A ++ (b.at' + 8) :: used C := by rw [used_app, used_cons, if_pos hk]
    rw [← e]; exact hU
  have it := take_inv H.inv (by omega)
  have hl := lay_inv (b := ⟨b.at', b.size, 2⟩) it rfl
  have hgb : b.size < 65536 := by omega
  have hs8 := H.inv.size
  refine re_big H.me (p := b.at') (x := b.at' + 8) (size := b.size) (z := need n) (cs := 0) (n := n) (by omega) (by omega) (by omega) (by omega) (by omega) (by omega) h1 h2 rfl (J := fun _ => True)
    (K := fun w' => ∃ m', Hp w' h g gb cap mb N (cutS true A b.at' b.size (need n) C L).1 (cutS true A b.at' b.size (need n) C L).2 m' ∧ ∀ x, Off (A ++ b :: C) x → m' x = m x)
    (H.piece hk) (H.size51 hk) (by omega) fun w1 o1 M1 => ?_
  refine (cut_no M1 (by omega) (hP.only o1 (by simp; omega)) 52 (by omega) hgb (by omega) (by omega) (J := fun m' => m' = layW N m b.at' b.size 0) ?_).mono ?_
  · refine (lay_any M1 (k := 0) (p := b.at') (z := b.size) (by omega) (by omega) (by omega) (by omega) (by omega) (by omega) (by omega)).mono ?_
    rintro e w1 ⟨rfl, o1, H1⟩
    exact ⟨rfl, o1, _, H1, rfl⟩
  · rintro e w2 ⟨rfl, o2, ⟨m2, M2, rfl⟩, P2⟩
    refine ⟨rfl, o2, _, H.cut (L'' := (cutS true A b.at' b.size (need n) C L).2) ?_ hac M2 P2 hU2, fun x hx => hl.2 x (swap_off hx (by omega))⟩
    have e0 : cutS true A b.at' b.size (need n) C L = (A ++ ⟨b.at', b.size, 0⟩ :: C, L) := by unfold cutS; rw [if_pos hlt]
    rw [e0]
    exact hl.1
end
end Go.Proofs.YthlaoanfoimkfaaDoor
namespace Go.Proofs.YthlaoanfoimkfaaDoor
open Go.RowKit
set_option linter.unusedVariables false
set_option linter.all false
set_option maxRecDepth 100000
theorem Env.below {w w' : World} {n : Nat} (H : Env w) (hb : Below n w w') (h0 : 0 < n) : Env w' :=
  ⟨fun i hi => (hb.cell (p := ⟨0, i, none⟩) h0).trans (H.tab i hi), Nat.le_trans H.one hb.size⟩
/-- The law's state: the two heaps beside each other, alike. -/
def SP (base p N n : Nat) (w : World) : Prop := Env w ∧ ∃ (X : HAdd Unit Unit Nat) (h g gb cap mb r gB gM : Nat) (A : Option Addr) (c : Nat) (B : List Bk) (L : Nat → List Nat) (m : Nat → Nat) (M : List UInt8) (l : List Nat),
  @Pr X w base p h g gb cap mb r gB gM N A c B L m B L M l ∧ Ag B m M ∧ l.length ≤ n
section
variable {w w' : World} {p h g gb cap mb r gB gM N base n : Nat} {A : Option Addr} {c : Nat} {B B' B2 : List Bk} {L L' L2 : Nat → List Nat} {m m2 : Nat → Nat} {M M' M2 : List UInt8} {l : List Nat} {S : List Nat}
variable [X : HAdd Unit Unit Nat]
theorem Pr.lts (P : Pr w base p h g gb cap mb r gB gM N A c B L m B2 L2 M l) : (∀ x ∈ [g, gb, mb], x < w.heap.size) ∧ ∀ x ∈ [r, gB, gM], x < w.heap.size := by
  have h1 := P.hp.lt
  have h2 := P.dr.lt
  constructor <;> (intro x hx; simp at hx; rcases hx with rfl | rfl | rfl <;> omega)
theorem DT.onlyS (D : DT w r gB gM B L M w') : Only [r, gB, gM] w w' := by
  obtain ⟨g1, _, o, _⟩ := D
  exact o
theorem DT.refl (D : Dr w r gB gM B L M) : DT w r gB gM B L M w := ⟨gB, D, Only.refl _ _, .inl rfl⟩
theorem okT (P : Pr w base p h g gb cap mb r gB gM N A c B L m B L M l) (h0 : 0 < base) (hE : Env w) (hl : l.length ≤ n) (hn : n < 70000) {F G : FuncId} {hA dA : Array Value} {FRm : (Nat → Nat) → Prop} {p0 was : Nat} (hp0 : p0 < 69000) (hw1 : was < 70000) (hw4 : was % 4 = 0)
    {y : Bk} (hy : y ∈ B') (hyk : y.k = 0) (hya : y.at' = p0)
    (HC : ∀ W, Pr W base p h g gb cap mb r gB gM N A c B L m B L M l → Env W → Calls Tryd.prog F hA W fun e w' => e = .returned (.tuple #[.int .i64 (p0 + 8 : Nat), .int .i64 0]) ∧ Only [g, gb, mb] W w' ∧ ∃ m', Hp w' h g gb cap mb N B' L' m' ∧ FRm m')
    (DC : ∀ W, Dr W r gB gM B L M → Calls Tryd.prog G dA W fun e w' => e = .returned (.tuple #[.int .i64 (p0 + 8 : Nat), .int .i64 0]) ∧ DT W r gB gM B' L' M' w')
    (hAg : ∀ m', FRm m' → AgX B' m' M' p0 was) (hM' : M'.length = N) :
    ∃ J1 J2 J3 : World → Prop, (∀ W, Only [] w W → Calls Tryd.prog F hA W fun e w' => e = .returned (.tuple #[.int .i64 (p0 + 8 : Nat), .int .i64 0]) ∧ Only [g, gb, mb] W w' ∧ J1 w') ∧
      (∀ W, J1 W → J1 W.drew ∧ W.cell? ⟨p, 0, none⟩ = some (.pointer (some ⟨h, 0, none⟩)) ∧ W.cell? ⟨p, 1, none⟩ = some (.pointer (some ⟨r, 0, none⟩))) ∧
      (∀ W, J1 W → Calls Tryd.prog G dA W fun e w' => e = .returned (.tuple #[.int .i64 (p0 + 8 : Nat), .int .i64 0]) ∧ Only [r, gB, gM] W w' ∧ J2 w') ∧
      (∀ W, J2 W → W.cell? ⟨p, 1, none⟩ = some (.pointer (some ⟨r, 0, none⟩))) ∧
      (∀ W, J2 W → Calls Tryd.prog 25 #[.pointer (some ⟨p, 0, none⟩), .int .i64 (p0 + 8 : Nat), .int .i64 0, .int .i64 (p0 + 8 : Nat), .int .i64 0] W fun e w' => e = .returned (.bool true) ∧ J3 w') ∧
      (∀ W, J3 W → Calls Tryd.prog 26 #[.pointer (some ⟨p, 0, none⟩), .int .i64 (p0 + 8 : Nat), .int .i64 was] W fun e w' => e = .returned (.bool true) ∧ Below base w w' ∧ SP base p N (n + 1) w') := by
  refine ⟨fun W => Below base w W ∧ ∃ m', Pr W base p h g gb cap mb r gB gM N A c B' L' m' B L M l ∧ FRm m',
    fun W => Below base w W ∧ ∃ gB' m', Pr W base p h g gb cap mb r gB' gM N A c B' L' m' B' L' M' l ∧ FRm m',
    fun W => Below base w W ∧ ∃ (Y : HAdd Unit Unit Nat) (A' : Option Addr) (c' gB' : Nat) (m' : Nat → Nat), @Pr Y W base p h g gb cap mb r gB' gM N A' c' B' L' m' B' L' M' (l ++ [p0 + 8]) ∧ FRm m', ?_, ?_, ?_, ?_, ?_, ?_⟩
  · intro W o
    obtain ⟨P', b'⟩ := P.keep o
    refine (HC W P' (hE.below b' h0)).mono ?_
    rintro e w' ⟨rfl, o2, m', H', fr⟩
    obtain ⟨P2, b2⟩ := P'.hcall o2 H'
    exact ⟨rfl, o2, b'.trans b2, m', P2, fr⟩
  · rintro W ⟨b', m', P', fr⟩
    obtain ⟨P2, b2⟩ := P'.keep ((Only.refl [] W).drew)
    exact ⟨⟨b'.trans b2, m', P2, fr⟩, P'.slot0, P'.slot1⟩
  · rintro W ⟨b', m', P', fr⟩
    refine (DC W P'.dr).mono ?_
    rintro e w' ⟨rfl, D⟩
    obtain ⟨gB', P2, b2⟩ := P'.rcall D hM'
    exact ⟨rfl, D.onlyS, b'.trans b2, gB', m', P2, fr⟩
  · rintro W ⟨b', gB', m', P', fr⟩
    exact P'.slot1
  · rintro W ⟨b', gB', m', P', fr⟩
    refine (got_yes P' (by omega) (b := p0 + 8) (by omega)).mono ?_
    rintro e w' ⟨rfl, b2, Y, A', c', P2⟩
    exact ⟨rfl, b'.trans b2, Y, A', c', gB', m', P2, fr⟩
  · rintro W ⟨b', Y, A', c', gB', m', P', fr⟩
    have hx := hAg m' fr
    rw [← hya] at hx ⊢
    refine (@fresh_any W p h g gb cap mb r gB' gM N base A' c' B' L' m' M' (l ++ [y.at' + 8]) Y y (hya ▸ P') hy hyk was hw1 hw4 hx (by simp; omega)).mono ?_
    rintro e w' ⟨rfl, b2, gB2, m2, M2, P2, hag⟩
    have b3 := b'.trans b2
    exact ⟨rfl, b3, hE.below b3 h0, Y, h, g, gb, cap, mb, r, gB2, gM, A', c', B', L', m2, M2, _, P2, hag, by simp; omega⟩
theorem errT (P : Pr w base p h g gb cap mb r gB gM N A c B L m B L M l) (hag : Ag B m M) (h0 : 0 < base) (hE : Env w) (hl : l.length ≤ n) {F G : FuncId} {hA dA : Array Value} {f : Nat} (hf : f ≠ 0)
    (HC : ∀ W, Pr W base p h g gb cap mb r gB gM N A c B L m B L M l → Env W → Calls Tryd.prog F hA W fun e w' => e = .returned (.tuple #[.int .i64 (0 : Nat), .int .i64 (f : Nat)]) ∧ Only [g, gb, mb] W w' ∧ Hp w' h g gb cap mb N B L m)
    (DC : ∀ W, Dr W r gB gM B L M → Calls Tryd.prog G dA W fun e w' => e = .returned (.tuple #[.int .i64 (0 : Nat), .int .i64 (f : Nat)]) ∧ DT W r gB gM B L M w') :
    ∃ J1 J2 : World → Prop, (∀ W, Only [] w W → Calls Tryd.prog F hA W fun e w' => e = .returned (.tuple #[.int .i64 (0 : Nat), .int .i64 (f : Nat)]) ∧ Only [g, gb, mb] W w' ∧ J1 w') ∧
      (∀ W, J1 W → J1 W.drew ∧ W.cell? ⟨p, 0, none⟩ = some (.pointer (some ⟨h, 0, none⟩)) ∧ W.cell? ⟨p, 1, none⟩ = some (.pointer (some ⟨r, 0, none⟩))) ∧
      (∀ W, J1 W → Calls Tryd.prog G dA W fun e w' => e = .returned (.tuple #[.int .i64 (0 : Nat), .int .i64 (f : Nat)]) ∧ Only [r, gB, gM] W w' ∧ J2 w') ∧
      (∀ W, J2 W → W.cell? ⟨p, 1, none⟩ = some (.pointer (some ⟨r, 0, none⟩))) ∧
      (∀ W, J2 W → Calls Tryd.prog 25 #[.pointer (some ⟨p, 0, none⟩), .int .i64 (0 : Nat), .int .i64 (f : Nat), .int .i64 (0 : Nat), .int .i64 (f : Nat)] W fun e w' => e = .returned (.bool true) ∧ Below base w w' ∧ SP base p N (n + 1) w') := by
  refine ⟨fun W => Below base w W ∧ Pr W base p h g gb cap mb r gB gM N A c B L m B L M l, fun W => Below base w W ∧ ∃ gB', Pr W base p h g gb cap mb r gB' gM N A c B L m B L M l, ?_, ?_, ?_, ?_, ?_⟩
  · intro W o
    obtain ⟨P', b'⟩ := P.keep o
    refine (HC W P' (hE.below b' h0)).mono ?_
    rintro e w' ⟨rfl, o2, H'⟩
    obtain ⟨P2, b2⟩ := P'.hcall o2 H'
    exact ⟨rfl, o2, b'.trans b2, P2⟩
  · rintro W ⟨b', P'⟩
    obtain ⟨P2, b2⟩ := P'.keep ((Only.refl [] W).drew)
    exact ⟨⟨b'.trans b2, P2⟩, P'.slot0, P'.slot1⟩
  · rintro W ⟨b', P'⟩
    refine (DC W P'.dr).mono ?_
    rintro e w' ⟨rfl, D⟩
    obtain ⟨gB', P2, b2⟩ := P'.rcall D P.len
    exact ⟨rfl, D.onlyS, b'.trans b2, gB', P2⟩
  · rintro W ⟨b', gB', P'⟩
    exact P'.slot1
  · rintro W ⟨b', gB', P'⟩
    refine (got_walk0 hf).mono ?_
    rintro e w' ⟨rfl, rfl⟩
    exact ⟨rfl, b', hE.below b' h0, X, h, g, gb, cap, mb, r, gB', gM, A, c, B, L, m, M, l, P', hag, by omega⟩
end
end Go.Proofs.YthlaoanfoimkfaaDoor
namespace Go.Proofs.YthlaoanfoimkfaaDoor
open Go.RowKit
set_option linter.unusedVariables false
set_option linter.all false
set_option maxRecDepth 100000
theorem floor_lt {z : Nat} (hz : 16 ≤ z) (hz2 : z < 80000) : floor z < 32 := by
  rw [floor_eq z hz]
  have h := floor_arg hz hz2
  generalize z + 2 ^ (Nat.log2 z - 1) - 1 = x at h
  have : Nat.log2 x < 17 := (Nat.log2_lt (by omega)).2 (by omega)
  unfold cls
  omega
theorem and_pow_iff : (List.range 4097).all (fun q => !(decide (8 ≤ q) && q &&& (q - 1) == 0) || (List.range 13).any (fun k => decide (3 ≤ k) && q == 2 ^ k)) = true := by kernel_rfl
theorem pow_of {q : Int} (h1 : 8 ≤ q) (h2 : q ≤ 4096) (h3 : bits .and .i64 q (q - 1) = 0) : ∃ k, 3 ≤ k ∧ k ≤ 12 ∧ q = ((2 ^ k : Nat) : Int) := by
  obtain ⟨n, rfl⟩ : ∃ n : Nat, q = n := ⟨q.toNat, by omega⟩
  rw [show ((n : Int) - 1) = ((n - 1 : Nat) : Int) by omega, i64_and _ _ (by omega) (by omega)] at h3
  have := List.all_eq_true.1 and_pow_iff n (List.mem_range.2 (by omega))
  have e : (decide (8 ≤ n) && n &&& (n - 1) == 0) = true := by
    have : n &&& (n - 1) = 0 := by omega
    rw [this]
    simp; omega
  rw [e] at this
  simp only [Bool.not_true, Bool.false_or] at this
  obtain ⟨k, hk, hq⟩ := List.any_eq_true.1 this
  have := List.mem_range.1 hk
  simp at hq
  exact ⟨k, hq.1, by omega, by rw [hq.2]⟩
section
variable {w w' : World} {p h g gb cap mb r gB gM N base n : Nat} {A : Option Addr} {c : Nat} {B B' B2 : List Bk} {L L' L2 : Nat → List Nat} {m m2 : Nat → Nat} {M M' M2 : List UInt8} {l : List Nat} {S : List Nat}
theorem Inv.high (hI : Inv N m B L) : ∀ c, 24 ≤ c → L c = [] := fun c hc => by
  rcases hl : L c with _ | ⟨a, q⟩
  · rfl
  · obtain ⟨b, hb, e1, e2, e3⟩ := (hI.mem c a).1 (by rw [hl]; simp)
    have := cls_lt' hI hb
    omega
variable [X : HAdd Unit Unit Nat]
theorem Pr.off (P : Pr w base p h g gb cap mb r gB gM N A c B L m B2 L2 M l) (hl : l.length < 100000) (k nn q a : Int) (odd : Bool) (wv : Nat) :
    ∀ W, Only [] w W → Calls Tryd.prog 23 #[.pointer (some ⟨p, 0, none⟩), .agg #[.int .i64 k, .int .i64 nn, .int .i64 q, .int .i64 a, .bool odd, .int .u32 wv]] W fun e w' => e = .returned (.int .i64 (offV l a odd)) ∧ Only [] W w' :=
  fun W o => off_any (P.keep o).1 hl k nn q a odd wv
theorem Pr.slots (P : Pr w base p h g gb cap mb r gB gM N A c B L m B2 L2 M l) : ∀ W, Only [] w W → W.cell? ⟨p, 0, none⟩ = some (.pointer (some ⟨h, 0, none⟩)) ∧ W.cell? ⟨p, 1, none⟩ = some (.pointer (some ⟨r, 0, none⟩)) :=
  fun W o => ⟨(P.keep o).1.slot0, (P.keep o).1.slot1⟩
end
section
variable {w w' : World} {p N base n : Nat}
theorem do1_any (hS : SP base p N n w) (h0 : 0 < base) (hn : n < 70000) (nn q a : Int) (odd : Bool) (wv : Nat) :
    Calls Tryd.prog 8 #[.pointer (some ⟨p, 0, none⟩), stpV 1 nn q a odd wv] w fun e w' => e = .returned (.bool true) ∧ Below base w w' ∧ SP base p N (n + 1) w' := by
  obtain ⟨hE, X, h, g, gb, cap, mb, r, gB, gM, A, c0, B, L, m, M, l, P, hag, hl⟩ := hS
  have hI := P.hp.inv
  have hs := hI.size
  obtain ⟨s1, s2⟩ := P.lts
  by_cases hnn : 1 ≤ nn ∧ nn ≤ 65536
  · obtain ⟨z, rfl⟩ : ∃ z : Nat, nn = z := ⟨nn.toNat, by omega⟩
    rcases first_or L hI.high (floor (need z)) with hno | ⟨c, hc⟩
    · obtain ⟨J1, J2, AL, R1, AR, R2, GT⟩ := errT P hag h0 hE hl (f := 5) (by decide) (F := 15) (G := 24) (hA := #[.pointer (some ⟨h, 0, none⟩), .int .i64 z]) (dA := #[.pointer (some ⟨r, 0, none⟩), .int .i64 z])
        (fun W P' _ => (alloc_no P'.hp (by omega) (by omega) hno).mono fun e w' ⟨he, o, H⟩ => ⟨he, o.mono (by simp), H⟩)
        (fun W D => (dalloc_no D (by omega) (by omega) hno).mono fun e w' ⟨he, hw⟩ => ⟨he, hw ▸ DT.refl D⟩)
      exact do1_err (was := 0) (z := 0) (J4 := fun _ => True) s1 s2 (by decide) (P.off (by omega) _ _ _ _ _ _) P.slots AL R1 AR R2 GT
    · obtain ⟨A1, b, C1, hB, hk, hd, hcl⟩ := find_has hI hc.2.1
      have tb := Tile.mem hI.tile b (by rw [hB]; simp)
      have hbl := hI.blen
      have htile := hI.tile
      rw [hB] at hag htile hbl
      obtain ⟨y, hy, hyk, hya⟩ := cut_has (A := A1) (p := b.at') (size := b.size) (z := need z) (C := C1) (L := rmL L (cls b.size) b.at') false
      have hc24 : c < 24 := by rw [← hcl]; exact cls_lt' hI (by rw [hB]; simp)
      obtain ⟨J1, J2, J3, AL, R1, AR, R2, GT, FR⟩ := okT P h0 hE hl hn (F := 15) (G := 24) (hA := #[.pointer (some ⟨h, 0, none⟩), .int .i64 z]) (dA := #[.pointer (some ⟨r, 0, none⟩), .int .i64 z])
        (FRm := fun m' => ∀ x, Off (A1 ++ b :: C1) x → (x < b.at' ∨ b.at' + b.size ≤ x) → m' x = m x) (p0 := b.at') (was := 0) (by omega) (by omega) (by omega) hy hyk hya
        (fun W P' hE' => alloc_yes hE' P'.g0 (hB ▸ P'.hp) hk (by omega) (by omega) hc hd)
        (fun W D => (dalloc_yes (hB ▸ D) (by omega) htile hs.2.1 (fun d => by have := hI.llen d; omega) (by omega) (by omega) hc (by omega) hd).mono fun e w' ⟨he, D'⟩ => ⟨he, D'.toDT⟩)
        (fun m' fr => ag_cut htile hag fr (fun y hy hk => by
          rcases cut_mem hy hk with q | q | q
          · exact .inl q
          · exact .inr (by rw [q.1])
          · exact .inr (by rw [q.1]))) P.len
      exact do1_ok (f := 0) (was := 0) (z := 0) s1 s2 (P.off (by omega) _ _ _ _ _ _) P.slots AL R1 AR R2 GT FR
  · obtain ⟨J1, J2, AL, R1, AR, R2, GT⟩ := errT P hag h0 hE hl (f := 2) (by decide) (F := 15) (G := 24) (hA := #[.pointer (some ⟨h, 0, none⟩), .int .i64 nn]) (dA := #[.pointer (some ⟨r, 0, none⟩), .int .i64 nn])
      (fun W P' _ => (alloc_bad P'.hp hnn).mono fun e w' ⟨he, hw⟩ => ⟨he, hw ▸ Only.refl _ _, hw ▸ P'.hp⟩)
      (fun W D => (dalloc_bad hnn).mono fun e w' ⟨he, hw⟩ => ⟨he, hw ▸ DT.refl D⟩)
    exact do1_err (was := 0) (z := 0) (J4 := fun _ => True) s1 s2 (by decide) (P.off (by omega) _ _ _ _ _ _) P.slots AL R1 AR R2 GT
end
end Go.Proofs.YthlaoanfoimkfaaDoor
namespace Go.Proofs.YthlaoanfoimkfaaDoor
open Go.RowKit
set_option linter.unusedVariables false
set_option linter.all false
set_option maxRecDepth 100000
section
variable {w w' : World} {p N base n : Nat}
theorem do2_any (hS : SP base p N n w) (h0 : 0 < base) (hn : n < 70000) (nn q a : Int) (hq : -9223372036854775808 ≤ q ∧ q ≤ 9223372036854775807) (odd : Bool) (wv : Nat) :
    Calls Tryd.prog 8 #[.pointer (some ⟨p, 0, none⟩), stpV 2 nn q a odd wv] w fun e w' => e = .returned (.bool true) ∧ Below base w w' ∧ SP base p N (n + 1) w' := by
  obtain ⟨hE, X, h, g, gb, cap, mb, r, gB, gM, A, c0, B, L, m, M, l, P, hag, hl⟩ := hS
  have hI := P.hp.inv
  have hs := hI.size
  obtain ⟨s1, s2⟩ := P.lts
  by_cases hqk : ∃ k, 3 ≤ k ∧ k ≤ 12 ∧ q = ((2 ^ k : Nat) : Int)
  · obtain ⟨k, hk1, hk2, rfl⟩ := hqk
    have hp1 : 2 ^ 3 ≤ 2 ^ k := Nat.pow_le_pow_right (by omega) hk1
    have hp2 : 2 ^ k ≤ 2 ^ 12 := Nat.pow_le_pow_right (by omega) hk2
    by_cases hnn : 1 ≤ nn ∧ nn ≤ 65536
    · obtain ⟨z, rfl⟩ : ∃ z : Nat, nn = z := ⟨nn.toNat, by omega⟩
      have hne := need_is z
      have hz4 := hne.2.2.2 (by omega)
      rcases first_or L hI.high (floor (need z + 2 ^ k + 16)) with hno | ⟨c, hc⟩
      · obtain ⟨J1, J2, AL, R1, AR, R2, GT⟩ := errT P hag h0 hE hl (f := 5) (by decide) (F := 27) (G := 28) (hA := #[.pointer (some ⟨h, 0, none⟩), .int .i64 (2 ^ k : Nat), .int .i64 z]) (dA := #[.pointer (some ⟨r, 0, none⟩), .int .i64 (2 ^ k : Nat), .int .i64 z])
          (fun W P' _ => (aligned_no P'.hp (by omega) (by omega) ⟨hk1, hk2⟩ hno).mono fun e w' ⟨he, o, H⟩ => ⟨he, o.mono (by simp), H⟩)
          (fun W D => (dalig_w0 (q := 2 ^ k) ⟨hk1, hk2⟩ rfl (by omega) (by omega) rfl (by omega) (by
            have := dfind_no D (z := need z + 2 ^ k + 16) (by omega) (by omega) hno (floor_lt (by omega) (by omega))
            rw [show ((need z + 2 ^ k + 16 : Nat) : Int) = (need z : Int) + ((2 ^ k : Nat) : Int) + 16 by omega] at this
            exact this)).mono fun e w' ⟨he, hw⟩ => ⟨he, hw ▸ DT.refl D⟩)
        exact do2_err (was := 0) (z := 0) (J4 := fun _ => True) s1 s2 (by decide) (P.off (by omega) _ _ _ _ _ _) P.slots AL R1 AR R2 GT
      · obtain ⟨A1, b, C1, hB, hk, hd, hcl⟩ := find_has hI hc.2.1
        have tb := Tile.mem hI.tile b (by rw [hB]; simp)
        have hbl := hI.blen
        have htile := hI.tile
        have hc24 : c < 24 := by rw [← hcl]; exact cls_lt' hI (by rw [hB]; simp)
        have hbig : need z + 2 ^ k + 16 ≤ b.size := floor_le (by omega) (by omega) (by rw [hcl]; exact hc.1)
        rw [hB] at hag htile hbl
        have h2k : 0 < 2 ^ k := by omega
        by_cases hm : (b.at' + 8) % 2 ^ k = 0
        · obtain ⟨y, hy, hyk, hya⟩ := cut_has (A := A1) (p := b.at') (size := b.size) (z := need z) (C := C1) (L := rmL L (cls b.size) b.at') false
          obtain ⟨J1, J2, J3, AL, R1, AR, R2, GT, FR⟩ := okT P h0 hE hl hn (F := 27) (G := 28) (hA := #[.pointer (some ⟨h, 0, none⟩), .int .i64 (2 ^ k : Nat), .int .i64 z]) (dA := #[.pointer (some ⟨r, 0, none⟩), .int .i64 (2 ^ k : Nat), .int .i64 z])
            (FRm := fun m' => ∀ x, Off (A1 ++ b :: C1) x → (x < b.at' ∨ b.at' + b.size ≤ x) → m' x = m x) (p0 := b.at') (was := 0) (by omega) (by omega) (by omega) hy hyk hya
            (fun W P' hE' => aligned_zero hE' P'.g0 (hB ▸ P'.hp) hk (by omega) (by omega) ⟨hk1, hk2⟩ hc hd ((up_eq h2k).2 hm))
            (fun W D => (dalig_zero (hB ▸ D) (by omega) htile hs.2.1 (fun d => by have := hI.llen d; omega) (by omega) (by omega) ⟨hk1, hk2⟩ hc (by omega) hd hm).mono fun e w' ⟨he, D'⟩ => ⟨he, D'.toDT⟩)
            (fun m' fr => ag_cut htile hag fr (fun y hy hk => by
              rcases cut_mem hy hk with q | q | q
              · exact .inl q
              · exact .inr (by rw [q.1])
              · exact .inr (by rw [q.1]))) P.len
          exact do2_ok (f := 0) (was := 0) (z := 0) s1 s2 (P.off (by omega) _ _ _ _ _ _) P.slots AL R1 AR R2 GT FR
        · have hup := up_is (n := b.at' + 24) h2k
          obtain ⟨a', ha'⟩ : ∃ a', up (2 ^ k) (b.at' + 24) = b.at' + 8 + a' := ⟨up (2 ^ k) (b.at' + 24) - (b.at' + 8), by omega⟩
          obtain ⟨y, hy, hyk, hya⟩ := cut_has (A := A1 ++ [⟨b.at', a', 1⟩]) (p := b.at' + a') (size := b.size - a') (z := need z) (C := C1) (L := insL (rmL L (cls b.size) b.at') (cls a') b.at') false
          obtain ⟨J1, J2, J3, AL, R1, AR, R2, GT, FR⟩ := okT P h0 hE hl hn (F := 27) (G := 28) (hA := #[.pointer (some ⟨h, 0, none⟩), .int .i64 (2 ^ k : Nat), .int .i64 z]) (dA := #[.pointer (some ⟨r, 0, none⟩), .int .i64 (2 ^ k : Nat), .int .i64 z])
            (FRm := fun m' => ∀ x, Off (A1 ++ b :: C1) x → (x < b.at' ∨ b.at' + b.size ≤ x) → m' x = m x) (p0 := b.at' + a') (was := 0) (by omega) (by omega) (by omega) hy hyk hya
            (fun W P' hE' => aligned_more hE' P'.g0 (hB ▸ P'.hp) hk (by omega) (by omega) ⟨hk1, hk2⟩ hc hd (fun e => hm ((up_eq h2k).1 e)) ha')
            (fun W D => (dalig_more (hB ▸ D) (by omega) htile hs.2.1 (fun d => by have := hI.llen d; omega) (by omega) (by omega) ⟨hk1, hk2⟩ hc (by omega) hd hbig hm ha').mono fun e w' ⟨he, D'⟩ => ⟨he, D'.toDT⟩)
            (fun m' fr => ag_cut htile hag fr (fun y hy hk => by
              rcases cut_mem hy hk with q | q | q
              · rcases List.mem_append.1 q with q | q
                · rcases List.mem_append.1 q with q | q
                  · exact .inl (List.mem_append_left _ q)
                  · rw [List.mem_singleton.1 q] at hk
                    simp at hk
                · exact .inl (List.mem_append_right _ q)
              · exact .inr (by rw [q.1])
              · exact .inr (by rw [q.1]))) P.len
          exact do2_ok (f := 0) (was := 0) (z := 0) s1 s2 (P.off (by omega) _ _ _ _ _ _) P.slots AL R1 AR R2 GT FR
    · obtain ⟨J1, J2, AL, R1, AR, R2, GT⟩ := errT P hag h0 hE hl (f := 2) (by decide) (F := 27) (G := 28) (hA := #[.pointer (some ⟨h, 0, none⟩), .int .i64 (2 ^ k : Nat), .int .i64 nn]) (dA := #[.pointer (some ⟨r, 0, none⟩), .int .i64 (2 ^ k : Nat), .int .i64 nn])
        (fun W P' _ => (aligned_bad P'.hp hq (fun hh => hnn hh.1)).mono fun e w' ⟨he, o⟩ => ⟨he, o.mono (by simp), P'.hp.only0 o⟩)
        (fun W D => (dalig_bad2 (q := 2 ^ k) ⟨hk1, hk2⟩ rfl hnn).mono fun e w' ⟨he, hw⟩ => ⟨he, hw ▸ DT.refl D⟩)
      exact do2_err (was := 0) (z := 0) (J4 := fun _ => True) s1 s2 (by decide) (P.off (by omega) _ _ _ _ _ _) P.slots AL R1 AR R2 GT
  · obtain ⟨J1, J2, AL, R1, AR, R2, GT⟩ := errT P hag h0 hE hl (f := 2) (by decide) (F := 27) (G := 28) (hA := #[.pointer (some ⟨h, 0, none⟩), .int .i64 q, .int .i64 nn]) (dA := #[.pointer (some ⟨r, 0, none⟩), .int .i64 q, .int .i64 nn])
      (fun W P' _ => (aligned_bad P'.hp hq (fun hh => hqk (pow_of hh.2.1 hh.2.2.1 hh.2.2.2))).mono fun e w' ⟨he, o⟩ => ⟨he, o.mono (by simp), P'.hp.only0 o⟩)
      (fun W D => (dalig_bad1 (fun j hj1 hj2 e => hqk ⟨j, hj1, hj2, e.symm⟩)).mono fun e w' ⟨he, hw⟩ => ⟨he, hw ▸ DT.refl D⟩)
    exact do2_err (was := 0) (z := 0) (J4 := fun _ => True) s1 s2 (by decide) (P.off (by omega) _ _ _ _ _ _) P.slots AL R1 AR R2 GT
end
end Go.Proofs.YthlaoanfoimkfaaDoor
namespace Go.Proofs.YthlaoanfoimkfaaDoor
open Go.RowKit
set_option linter.unusedVariables false
set_option linter.all false
set_option maxRecDepth 100000
theorem piece_or (B : List Bk) (x : Int) : NoPiece B x ∨ ∃ A b C, B = A ++ b :: C ∧ b.k = 0 ∧ x = ((b.at' + 8 : Nat) : Int) := by
  by_cases h : ∃ y ∈ used B, x = (y : Int)
  · right
    obtain ⟨y, hy, e⟩ := h
    obtain ⟨b, hb, hk, e2⟩ := mem_used.1 hy
    obtain ⟨A, C, hB⟩ := List.append_of_mem hb
    exact ⟨A, b, C, hB, hk, by rw [e, e2]⟩
  · left
    intro y hy e
    exact h ⟨y, hy, e⟩
theorem offV_range {l : List Nat} {a : Int} {odd : Bool} (hl : ∀ t ∈ l, t < 70000) (ha : -9223372036854775808 ≤ a ∧ a ≤ 9223372036854775807) : -9223372036854775808 ≤ offV l a odd ∧ offV l a odd ≤ 9223372036854775807 := by
  unfold offV
  split
  · exact ha
  · by_cases h : a.toNat % l.length < l.length
    · rw [List.getD_eq_getElem?_getD, List.getElem?_eq_getElem h]
      have := hl _ (List.getElem_mem h)
      simp only [Option.getD_some]
      omega
    · rw [List.getD_eq_getElem?_getD, List.getElem?_eq_none (by omega)]
      simp
theorem kinds_le {N : Nat} {m : Nat → Nat} {B : List Bk} {L : Nat → List Nat} (hI : Inv N m B L) (hall : ∀ b ∈ B, b.k ≠ 2) : ∀ b ∈ B, b.k ≤ 1 := fun b hb => by
  have := hI.kind b hb
  have := hall b hb
  omega
theorem cut_tile {A C : List Bk} {b : Bk} {N z : Nat} {L : Nat → List Nat} (ht : Tile 112 (A ++ b :: C) N) (hz : 16 ≤ z) (hz8 : z % 8 = 0) : Tile 112 (cutS false A b.at' b.size z C L).1 N := by
  letI : HAdd Unit Unit Nat := ⟨fun _ _ => 0⟩
  unfold cutS
  obtain ⟨x, t1, t2, t3, t4, t5⟩ := Tile.app.1 ht
  by_cases h : b.size - z < 16
  · rw [if_pos h]
    exact Tile.app.2 ⟨x, t1, t2, t3, t4, t5⟩
  · rw [if_neg h, if_neg (by simp)]
    exact tile_split ht hz hz8 (by omega)
theorem cut_len {A C : List Bk} {p size z : Nat} {L : Nat → List Nat} : (cutS false A p size z C L).1.length ≤ A.length + C.length + 2 ∧ ∀ d, ((cutS false A p size z C L).2 d).length ≤ (L d).length + 1 := by
  letI : HAdd Unit Unit Nat := ⟨fun _ _ => 0⟩
  unfold cutS
  by_cases h : size - z < 16
  · rw [if_pos h]
    exact ⟨by simp; omega, fun d => by simp⟩
  · rw [if_neg h, if_neg (by simp)]
    unfold putS
    exact ⟨by simp; omega, fun d => insL_len _ _ _ _⟩
section
variable {w w' : World} {p N base n : Nat}
theorem do4_any (hS : SP base p N n w) (h0 : 0 < base) (hn : n < 70000) (nn q a : Int) (ha : -9223372036854775808 ≤ a ∧ a ≤ 9223372036854775807) (odd : Bool) (wv : Nat) :
    Calls Tryd.prog 8 #[.pointer (some ⟨p, 0, none⟩), stpV 4 nn q a odd wv] w fun e w' => e = .returned (.bool true) ∧ Below base w w' ∧ SP base p N (n + 1) w' := by
  obtain ⟨hE, X, h, g, gb, cap, mb, r, gB, gM, A, c0, B, L, m, M, l, P, hag, hl⟩ := hS
  have hI := P.hp.inv
  have hs := hI.size
  have hbl := hI.blen
  have hk1 := kinds_le hI P.hp.all
  obtain ⟨s1, s2⟩ := P.lts
  have hor := offV_range (odd := odd) P.sm ha
  obtain ⟨o, ho⟩ : ∃ o, offV l a odd = o := ⟨_, rfl⟩
  have hoff := P.off (by omega) 4 nn q a odd wv
  rw [ho] at hoff hor
  rcases piece_or B o with hnp | ⟨A0, b, C0, hB, hk, rfl⟩
  · have SZ : ∀ W, Only [] w W → Calls Tryd.prog 30 #[.pointer (some ⟨r, 0, none⟩), .int .i64 o] W fun e w' => e = .returned (.tuple #[.int .i64 (0 : Nat), .int .i64 6]) ∧ W = w' := fun W oW => dsize_no (P.keep oW).1.dr (by omega) hI.tile hk1 hnp hor
    by_cases hnn : 1 ≤ nn ∧ nn ≤ 65536
    · obtain ⟨z, rfl⟩ : ∃ z : Nat, nn = z := ⟨nn.toNat, by omega⟩
      obtain ⟨J1, J2, AL, R1, AR, R2, GT⟩ := errT P hag h0 hE hl (f := 6) (by decide) (F := 19) (G := 31) (hA := #[.pointer (some ⟨h, 0, none⟩), .int .i64 o, .int .i64 z]) (dA := #[.pointer (some ⟨r, 0, none⟩), .int .i64 o, .int .i64 z])
        (fun W P' _ => (re_none P'.hp (by omega) (by omega) hnp hor).mono fun e w' ⟨he, hw⟩ => ⟨he, hw ▸ Only.refl _ _, hw ▸ P'.hp⟩)
        (fun W D => (dre_none (by omega) (by omega) (dpiece_no D (by omega) hI.tile hk1 hnp hor)).mono fun e w' ⟨he, hw⟩ => ⟨he, hw ▸ DT.refl D⟩)
      exact do4_err (was := 0) (z := 6) (J4 := fun _ => True) s1 s2 (by decide) hoff P.slots SZ AL R1 AR R2 GT
    · obtain ⟨J1, J2, AL, R1, AR, R2, GT⟩ := errT P hag h0 hE hl (f := 2) (by decide) (F := 19) (G := 31) (hA := #[.pointer (some ⟨h, 0, none⟩), .int .i64 o, .int .i64 nn]) (dA := #[.pointer (some ⟨r, 0, none⟩), .int .i64 o, .int .i64 nn])
        (fun W P' _ => (re_bad P'.hp hnn).mono fun e w' ⟨he, hw⟩ => ⟨he, hw ▸ Only.refl _ _, hw ▸ P'.hp⟩)
        (fun W D => (dre_bad hnn).mono fun e w' ⟨he, hw⟩ => ⟨he, hw ▸ DT.refl D⟩)
      exact do4_err (was := 0) (z := 6) (J4 := fun _ => True) s1 s2 (by decide) hoff P.slots SZ AL R1 AR R2 GT
  · have htile := hI.tile
    have hk0 : ∀ y ∈ A0 ++ C0, y.k ≤ 1 := fun y hy => hk1 y (by rw [hB]; rcases List.mem_append.1 hy with q | q <;> simp [q])
    have hbm : b ∈ B := by rw [hB]; simp
    have tb := Tile.mem htile b hbm
    have hag0 := hag
    have hbl0 := hbl
    rw [hB] at hag htile hbl
    have SZ : ∀ W, Only [] w W → Calls Tryd.prog 30 #[.pointer (some ⟨r, 0, none⟩), .int .i64 (b.at' + 8 : Nat)] W fun e w' => e = .returned (.tuple #[.int .i64 (b.size - 8 : Nat), .int .i64 0]) ∧ W = w' := fun W oW => dsize_yes (hB ▸ (P.keep oW).1.dr) (by omega) htile hs.2.1 (by omega)
    by_cases hnn : 1 ≤ nn ∧ nn ≤ 65536
    · obtain ⟨z, rfl⟩ : ∃ z : Nat, nn = z := ⟨nn.toNat, by omega⟩
      have hne := need_is z
      have hz4 := hne.2.2.2 (by omega)
      have hll : ∀ d, (L d).length ≤ 30000 := fun d => by have := hI.llen d; omega
      by_cases hbig : need z ≤ b.size
      · obtain ⟨y, hy, hyk, hya⟩ := cut_has (A := A0) (p := b.at') (size := b.size) (z := need z) (C := C0) (L := L) true
        by_cases hsm : b.size - need z < 16
        · obtain ⟨J1, J2, J3, AL, R1, AR, R2, GT, FR⟩ := okT P h0 hE hl hn (F := 19) (G := 31) (hA := #[.pointer (some ⟨h, 0, none⟩), .int .i64 (b.at' + 8 : Nat), .int .i64 z]) (dA := #[.pointer (some ⟨r, 0, none⟩), .int .i64 (b.at' + 8 : Nat), .int .i64 z])
            (FRm := fun m' => ∀ x, Off (A0 ++ b :: C0) x → m' x = m x) (p0 := b.at') (was := b.size - 8) (by omega) (by omega) (by omega) hy hyk hya
            (fun W P' hE' => realloc_same (hB ▸ P'.hp) hk (by omega) (by omega) hbig hsm)
            (fun W D => (drealloc_big (hB ▸ D) htile hs.2.1 hk hk0 (by omega) hll (by omega) (by omega) hbig).mono fun e w' ⟨he, D'⟩ => ⟨he, D'.toDT⟩)
            (fun m' fr => (ag_big (z := b.size) htile hk hag (fun x hx _ => fr x hx) (Nat.le_refl _) (fun y hy hk => by
              rcases cut_mem hy hk with q | q | q
              · exact .inl q
              · exact absurd hsm q.2
              · exact .inr q.1)).x _ _) P.len
          exact do4_ok (f := 0) (z := 0) s1 s2 hoff P.slots SZ AL R1 AR R2 GT FR
        · obtain ⟨J1, J2, J3, AL, R1, AR, R2, GT, FR⟩ := okT P h0 hE hl hn (F := 19) (G := 31) (hA := #[.pointer (some ⟨h, 0, none⟩), .int .i64 (b.at' + 8 : Nat), .int .i64 z]) (dA := #[.pointer (some ⟨r, 0, none⟩), .int .i64 (b.at' + 8 : Nat), .int .i64 z])
            (FRm := fun m' => ∀ x, Off (A0 ++ b :: C0) x → (x < b.at' + need z ∨ b.at' + b.size ≤ x) → m' x = m x) (p0 := b.at') (was := b.size - 8) (by omega) (by omega) (by omega) hy hyk hya
            (fun W P' hE' => realloc_big (hB ▸ P'.hp) hk (by omega) (by omega) hbig)
            (fun W D => (drealloc_big (hB ▸ D) htile hs.2.1 hk hk0 (by omega) hll (by omega) (by omega) hbig).mono fun e w' ⟨he, D'⟩ => ⟨he, D'.toDT⟩)
            (fun m' fr => (ag_big htile hk hag fr hbig (fun y hy hk => by
              rcases cut_mem hy hk with q | q | q
              · exact .inl q
              · exact .inr q.1
              · exact absurd q.2 hsm)).x _ _) P.len
          exact do4_ok (f := 0) (z := 0) s1 s2 hoff P.slots SZ AL R1 AR R2 GT FR
      · have hlt : b.size < need z := by omega
        by_cases hgr : ∃ cb q0, C0 = cb :: q0 ∧ cb.k = 1 ∧ need z ≤ b.size + cb.size
        · obtain ⟨cb, q0, rfl, hck, hsum⟩ := hgr
          obtain ⟨y, hy, hyk, hya⟩ := cut_has (A := A0) (p := b.at') (size := b.size + cb.size) (z := need z) (C := q0) (L := rmL L (cls cb.size) cb.at') true
          obtain ⟨J1, J2, J3, AL, R1, AR, R2, GT, FR⟩ := okT P h0 hE hl hn (F := 19) (G := 31) (hA := #[.pointer (some ⟨h, 0, none⟩), .int .i64 (b.at' + 8 : Nat), .int .i64 z]) (dA := #[.pointer (some ⟨r, 0, none⟩), .int .i64 (b.at' + 8 : Nat), .int .i64 z])
            (FRm := fun m' => ∀ x, Off (A0 ++ b :: cb :: q0) x → (x < b.at' + need z ∨ b.at' + b.size + cb.size ≤ x) → m' x = m x) (p0 := b.at') (was := b.size - 8) (by omega) (by omega) (by omega) hy hyk hya
            (fun W P' hE' => realloc_grow (hB ▸ P'.hp) hk hck (by omega) (by omega) hlt hsum)
            (fun W D => (drealloc_grow (hB ▸ D) htile hs.2.1 hk hck hk0 (by omega) hll (by omega) (by omega) hlt hsum).mono fun e w' ⟨he, D'⟩ => ⟨he, D'.toDT⟩)
            (fun m' fr => ag_grow htile hk hag fr hlt (fun y hy hk => by
              rcases cut_mem hy hk with q | q | q
              · exact .inl q
              · exact .inr (by rw [q.1])
              · exact .inr (by rw [q.1]))) P.len
          exact do4_ok (f := 0) (z := 0) s1 s2 hoff P.slots SZ AL R1 AR R2 GT FR
        · have hst : Stuck b C0 (need z) := by
            rcases C0 with _ | ⟨cb, q0⟩
            · exact .inl rfl
            · refine .inr ⟨cb, q0, rfl, ?_⟩
              have := hk0 cb (by simp)
              by_cases hc1 : cb.k = 1
              · exact .inr ⟨hc1, Nat.lt_of_not_le fun hh => hgr ⟨cb, q0, rfl, hc1, hh⟩⟩
              · exact .inl (by omega)
          rcases first_or L hI.high (floor (need z)) with hno | ⟨c, hc⟩
          · obtain ⟨J1, J2, AL, R1, AR, R2, GT⟩ := errT P hag0 h0 hE hl (f := 5) (by decide) (F := 19) (G := 31) (hA := #[.pointer (some ⟨h, 0, none⟩), .int .i64 (b.at' + 8 : Nat), .int .i64 z]) (dA := #[.pointer (some ⟨r, 0, none⟩), .int .i64 (b.at' + 8 : Nat), .int .i64 z])
              (fun W P' _ => (realloc_full (hB ▸ P'.hp) hk (by omega) (by omega) hlt hst hno).mono fun e w' ⟨he, o, H⟩ => ⟨he, o, hB ▸ H⟩)
              (fun W D => (drealloc_full (hB ▸ D) htile hs.2.1 hk (by omega) (by omega) (by omega) hlt hst hno).mono fun e w' ⟨he, D'⟩ => ⟨he, hB ▸ D'.toDT⟩)
            exact do4_err (was := b.size - 8) (z := 0) (J4 := fun _ => True) s1 s2 (by decide) hoff P.slots SZ AL R1 AR R2 GT
          · obtain ⟨A1, f, C1, hB1, hfk, hd, hcl⟩ := find_has hI hc.2.1
            have hfm : f ∈ B := by rw [hB1]; simp
            have tf := Tile.mem hI.tile f hfm
            have hc24 : c < 24 := by rw [← hcl]; exact cls_lt' hI hfm
            have hfs : need z ≤ f.size := floor_le (by omega) (by omega) (by rw [hcl]; exact hc.1)
            have hBB : A0 ++ b :: C0 = A1 ++ f :: C1 := by rw [← hB, hB1]
            have hbin : b ∈ (cutS false A1 f.at' f.size (need z) C1 (rmL L (cls f.size) f.at')).1 := by
              have hb1 : b ∈ A1 ++ C1 := by
                have : b ∈ A1 ++ f :: C1 := by rw [← hBB]; simp
                rcases List.mem_append.1 this with q | q
                · simp [q]
                · rcases List.mem_cons.1 q with e | q
                  · rw [e] at hk; omega
                  · simp [q]
              unfold cutS putS
              rcases List.mem_append.1 hb1 with q | q <;> by_cases e : f.size - need z < 16 <;> simp [e, q]
            obtain ⟨A2, C2, hB2⟩ := List.append_of_mem hbin
            have ht1 : Tile 112 (A2 ++ b :: C2) N := by
              rw [← hB2]
              exact cut_tile (by rw [← hB1]; exact hI.tile) hne.1 hne.2.1
            have hk2 : ∀ y ∈ A2 ++ C2, y.k ≤ 1 := fun y hy => by
              have : y ∈ (cutS false A1 f.at' f.size (need z) C1 (rmL L (cls f.size) f.at')).1 := by rw [hB2]; rcases List.mem_append.1 hy with q | q <;> simp [q]
              exact cut_kind (fun y hy => hk1 y (by rw [hB1]; rcases List.mem_append.1 hy with q | q <;> simp [q])) y this
            have hcl2 := cut_len (A := A1) (C := C1) (p := f.at') (size := f.size) (z := need z) (L := rmL L (cls f.size) f.at')
            have hlen2 : A1.length + C1.length + 1 ≤ 4096 := by
              have := congrArg List.length hB1
              simp at this
              omega
            have hl1 : (A2 ++ b :: C2).length ≤ 80000 := by rw [← hB2]; omega
            have hll1 : ∀ d, ((cutS false A1 f.at' f.size (need z) C1 (rmL L (cls f.size) f.at')).2 d).length ≤ 40000 := fun d => by
              have := hcl2.2 d
              have := rmL_len L (cls f.size) f.at' d
              have := hI.llen d
              omega
            obtain ⟨L2, hL2⟩ : ∃ L2, (cutS false A1 f.at' f.size (need z) C1 (rmL L (cls f.size) f.at')).2 = L2 := ⟨_, rfl⟩
            have hfu := freeS_used A2 b.at' b.size C2 L2
            have hbf : b.at' ≠ f.at' := fun e => by
              have := hI.tile.inj hbm hfm e
              rw [this] at hk
              omega
            obtain ⟨yf, hyf, hyfk, hyfa⟩ := cut_has (A := A1) (p := f.at') (size := f.size) (z := need z) (C := C1) (L := rmL L (cls f.size) f.at') false
            have hyf2 : yf ∈ A2 ++ C2 := by
              rw [hB2] at hyf
              rcases List.mem_append.1 hyf with q | q
              · simp [q]
              · rcases List.mem_cons.1 q with e | q
                · rw [e] at hyfa; exact absurd hyfa hbf
                · simp [q]
            obtain ⟨y, hy, hyk, hya⟩ : ∃ y ∈ (freeS A2 b.at' b.size C2 L2).1, y.k = 0 ∧ y.at' = f.at' := by
              have : f.at' + 8 ∈ used (freeS A2 b.at' b.size C2 L2).1 := by
                rw [hfu.1, ← used_app]
                exact mem_used.2 ⟨yf, hyf2, hyfk, by rw [hyfa]⟩
              obtain ⟨y, hy, e1, e2⟩ := mem_used.1 this
              exact ⟨y, hy, e1, by omega⟩
            obtain ⟨J1, J2, J3, AL, R1, AR, R2, GT, FR⟩ := okT P h0 hE hl hn (F := 19) (G := 31) (hA := #[.pointer (some ⟨h, 0, none⟩), .int .i64 (b.at' + 8 : Nat), .int .i64 z]) (dA := #[.pointer (some ⟨r, 0, none⟩), .int .i64 (b.at' + 8 : Nat), .int .i64 z])
              (FRm := fun m' => ∃ m1, (∀ x, Off (A0 ++ b :: C0) x → (x < f.at' ∨ f.at' + f.size ≤ x) → m1 x = m x) ∧ (∀ x, Off (A2 ++ b :: C2) x → (x < b.at' ∨ b.at' + b.size ≤ x) → m' x = copyW m1 (b.at' + 8) (f.at' + 8) (b.size - 8) x)) (p0 := f.at') (was := b.size - 8) (by omega) (by omega) (by omega) hy hyk hya
              (fun W P' hE' => (realloc_moved hE' P'.g0 (hB ▸ P'.hp) hk (by omega) (by omega) hlt hst hBB hfk hc hd hB2 hfs).mono fun e w' ⟨he, o, m1, m', H, f1, f2⟩ => ⟨he, o, m', hL2 ▸ H, m1, f1, f2⟩)
              (fun W D => (drealloc_moved (hB ▸ D) htile hs.2.1 P.len hk (by omega) hll (by omega) (by omega) hlt hst hBB hc (by omega) hd hfs hB2 ht1 hk2 hl1 hll1).mono fun e w' ⟨he, D'⟩ => ⟨he, hL2 ▸ D'⟩)
              (fun m' ⟨m1, f1, f2⟩ => ag_moved htile P.len hk (by rw [hBB]; simp) hfk hag (by omega) f1 ht1 f2 (fun y hy hyk => by
                have : y ∈ (cutS false A1 f.at' f.size (need z) C1 (rmL L (cls f.size) f.at')).1 := by rw [hB2]; rcases List.mem_append.1 hy with q | q <;> simp [q]
                rcases cut_mem this hyk with q | q | q
                · exact .inl (by rw [hBB]; rcases List.mem_append.1 q with q | q <;> simp [q])
                · exact .inr (by rw [q.1])
                · exact .inr (by rw [q.1])) (fun y hy hyk => by
                rcases hfu.2 y hy with q | q
                · exact q
                · omega)) (by rw [mcopy_len]; exact P.len)
            exact do4_ok (f := 0) (z := 0) s1 s2 hoff P.slots SZ AL R1 AR R2 GT FR
    · obtain ⟨J1, J2, AL, R1, AR, R2, GT⟩ := errT P hag0 h0 hE hl (f := 2) (by decide) (F := 19) (G := 31) (hA := #[.pointer (some ⟨h, 0, none⟩), .int .i64 (b.at' + 8 : Nat), .int .i64 nn]) (dA := #[.pointer (some ⟨r, 0, none⟩), .int .i64 (b.at' + 8 : Nat), .int .i64 nn])
        (fun W P' _ => (re_bad P'.hp hnn).mono fun e w' ⟨he, hw⟩ => ⟨he, hw ▸ Only.refl _ _, hw ▸ P'.hp⟩)
        (fun W D => (dre_bad hnn).mono fun e w' ⟨he, hw⟩ => ⟨he, hw ▸ DT.refl D⟩)
      exact do4_err (was := b.size - 8) (z := 0) (J4 := fun _ => True) s1 s2 (by decide) hoff P.slots SZ AL R1 AR R2 GT
end
end Go.Proofs.YthlaoanfoimkfaaDoor
