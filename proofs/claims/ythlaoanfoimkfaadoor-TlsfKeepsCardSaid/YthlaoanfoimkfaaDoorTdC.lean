/- Tlsf: its lists. No condition but what each theorem says. -/
import Derived.Test.YthlaoanfoimkfaaDoorTdB
import Derived.Test.YthlaoanfoimkfaaDoorMore
import Derived.BigRegion
namespace Go.Proofs.YthlaoanfoimkfaaDoor
open Go.RowKit
set_option linter.unusedVariables false
set_option linter.all false
set_option maxRecDepth 100000
attribute [local go_sem ↓] app_hide
def NV (l : List Nat) : List Value := l.map fun t : Nat => .int .i64 (t : Int)
theorem NV_len (l : List Nat) : (NV l).length = l.length := by simp [NV]
theorem NV_get (l : List Nat) (i t : Nat) (h : l[i]? = some t) : (NV l)[i]? = some (.int .i64 (t : Int)) := by simp [NV, h]
theorem int3_info : (Tryd.prog.info? 3).map (fun i => (i.zero, i.size, i.bytes)) = some (some (.int .i64 0), 1, 8) := by kernel_rfl
theorem NV_append (l r : List Nat) : NV (l ++ r) = NV l ++ NV r := by simp [NV]
theorem NV_one (l : List Nat) : ∀ u ∈ NV l, u.oneCell' = true := by
  intro u hu
  obtain ⟨t, _, rfl⟩ := List.mem_map.1 hu
  rfl
def Nsrc (W : World) (A : Option Addr) (l : List Nat) : Prop := 0 < l.length → ∃ g, A = some ⟨g, 0, none⟩ ∧ ∀ (j t : Nat), l[j]? = some t → W.cell? ⟨g, j, none⟩ = some (.int .i64 (t : Int))
theorem Nsrc.only0 {W W' : World} {A : Option Addr} {l : List Nat} (h : Nsrc W A l) (o : Only [] W W') : Nsrc W' A l := fun hl => by
  obtain ⟨g, e, hc⟩ := h hl
  exact ⟨g, e, fun j t hj => o.keep0 (hc j t hj)⟩
theorem Nsrc.own {w : World} {base c : Nat} {A : Option Addr} {l : List Nat} (h : w.ownsRow base 3 1 (.slice A l.length c) l.length (NV l)) : Nsrc w A l := fun hl => by
  obtain ⟨g, rfl, hc, _⟩ := own_cell h hl
  refine ⟨g, rfl, fun j t hj => ?_⟩
  rw [hc j (by have := (List.getElem?_eq_some_iff.1 hj).1; omega)]
  exact NV_get l j t hj
theorem Row.nsrc [HAdd Unit Unit Nat] {w : World} {A : Option Addr} {l : List Nat} (h : Row w A l) : Nsrc w A l := fun hl => by
  obtain ⟨g, cs, e, hb, hc, _⟩ := h hl
  exact ⟨g, e, fun j t hj => (hb.cell j).trans (hc j t hj)⟩
theorem Row.own [HAdd Unit Unit Nat] {w : World} {base c : Nat} {A : Option Addr} {l : List Nat} (h : w.ownsRow base 3 1 (.slice A l.length c) l.length (NV l)) (hx : xc < base) : Row w A l := fun hl => by
  rcases h.2 with ⟨hv, hn⟩ | ⟨g, cap, cur, hv, hbg, hg, r⟩
  · omega
  · simp only [Value.slice.injEq] at hv
    obtain ⟨rfl, _, _⟩ := hv
    refine ⟨g, cur, rfl, hg, fun j t hj => ?_, by omega⟩
    have h1 := h.cellAt j (by have := (List.getElem?_eq_some_iff.1 hj).1; omega)
    rw [Blk.cell hg j] at h1
    rw [h1]
    exact NV_get l j t hj
/-- append(s, r...) at a slice of one's own, r any numbers. -/
theorem app_src (w : World) (B : Nat) (A0 : Option Addr) (c0 : Nat) (l : List Nat) (A : Option Addr) (c : Nat) (r : List Nat) (n0 n : Nat) (hn0 : l.length = n0) (hn1 : r.length = n) (hrow : w.ownsRow B 3 1 (.slice A0 n0 c0) n0 (NV l)) (hs : Nsrc w A r)
    (hn : l.length + r.length ≤ 100000) (hB : B ≤ w.heap.size) :
    ∃ (A1 : Option Addr) (c1 : Nat) (w2 : World), (AppH #[29, 29] 29 #[.slice A0 n0 c0, .slice A n c]).run Tryd.prog w = .ok (.slice A1 (n0 + n) c1) w2 ∧ w2.ownsRow B 3 1 (.slice A1 (n0 + n) c1) (n0 + n) (NV (l ++ r)) ∧ Only (blkOf A0) w w2 := by
  obtain ⟨i0, hi, hz0, hz1, hz2⟩ := info_parts int3_info
  have hcap := own_cap hrow
  subst hn0
  rcases A with _ | a
  · have h0 : r = [] := by
      rcases Nat.eq_zero_or_pos r.length with h0 | h0
      · exact List.eq_nil_of_length_eq_zero h0
      · obtain ⟨ad, he, _⟩ := hs h0
        cases he
    subst h0
    obtain rfl : n = 0 := by simpa using hn1.symm
    refine ⟨A0, c0, w, ?_, by simpa using hrow, Only.refl _ _⟩
    · unfold AppH Builtin.append_
      have h1 := hcap.1
      have h2 := hcap.2
      rcases A0 with _ | a0
      · rcases hrow.2 with ⟨hv, _⟩ | ⟨g, cap, cur, hv, _⟩
        · simp only [Value.slice.injEq, true_and] at hv
          obtain ⟨hv1, rfl⟩ := hv
          simp [Builtin.lenOf, Builtin.firstCells, hv1]
        · simp at hv
      · simp [Builtin.lenOf, Builtin.firstCells, h1, storeCells]
  · have hc : ∀ j u, (NV r)[j]? = some u → w.cell? (a.add j) = some u := by
      rcases Nat.eq_zero_or_pos r.length with h0 | h0
      · intro j u hj
        rw [List.eq_nil_of_length_eq_zero h0] at hj
        simp [NV] at hj
      · obtain ⟨g, he, hc⟩ := hs h0
        cases he
        intro j u hj
        simp only [NV, List.getElem?_map, Option.map_eq_some_iff] at hj
        obtain ⟨t, ht, rfl⟩ := hj
        rw [add_mk, Nat.zero_add]
        exact hc j t ht
    obtain ⟨v', w', hrun, h2, h3, h4, h5⟩ := run_append_own_at (P := Tryd.prog) w B 29 29 3 i0 (.int .i64 0) 1 8 Tryd.underlying29 hi hz0 hz1 hz2 rfl (by omega) (.slice A0 l.length c0) l.length (NV l) hrow a n c (NV r) (by rw [NV_len]; omega) hc (NV_one r) (by unfold maxLen; omega) (by omega) hB
    rw [← NV_append] at h2
    obtain ⟨A1, c1, rfl⟩ : ∃ A1 c1, v' = .slice A1 (l.length + n) c1 := by
      rcases h2.2 with ⟨hv, hn⟩ | ⟨g, cap, cur, hv, _⟩
      · rw [hn]
        exact ⟨none, 0, hv⟩
      · exact ⟨_, _, hv⟩
    refine ⟨A1, c1, w', hrun, h2, (Only.refl _ w).grown h3 (fun k hk => .inl ?_)⟩
    rcases A0 with _ | a0
    · simp [Value.ownBlock] at hk
    · simp only [Value.ownBlock, Option.some.injEq] at hk
      simp [blkOf, hk]
theorem own_new (W : World) (t : Nat) : (W.alloc (.cells #[.int .i64 (t : Int)] 3)).ownsRow W.heap.size 3 1 (.slice (some ⟨W.heap.size, 0, none⟩) 1 1) 1 (NV [t]) := by
  have := own_of_block (cur := [.int .i64 (t : Int)]) (n := 1) (cap := 1) (base := W.heap.size) (Blk.new W 3 #[.int .i64 (t : Int)]) rfl (by omega) (by unfold maxLen; omega) (Nat.le_refl _)
  simpa [NV] using this
section
variable {w w' : World} {r gB gM N : Nat} {B A C : List Bk} {b : Bk} {L : Nat → List Nat} {M : List UInt8} {S : List Nat}
variable [HAdd Unit Unit Nat]
/-- One cell of a block's row is written. -/
theorem Dr.rowSet (H : Dr w r gB gM (A ++ b :: C) L M) {j : Nat} {u : Value} {b' : Bk} (hj : A.length * 3 ≤ j ∧ j < A.length * 3 + 3)
    (h0 : (if j = A.length * 3 then u = .int .i64 b'.at' else b'.at' = b.at')) (h1 : (if j = A.length * 3 + 1 then u = .int .i64 b'.size else b'.size = b.size)) (h2 : (if j = A.length * 3 + 2 then u = .bool (b'.k == 1) else (b'.k == 1) = (b.k == 1))) :
    Dr (w.setCell ⟨gB, j, none⟩ u) r gB gM (A ++ b' :: C) L M := by
  have hne := H.apart
  have o : Only [gB] w (w.setCell ⟨gB, j, none⟩ u) := (Only.refl [gB] w).setCell (.inl (by simp)) _
  obtain ⟨cs2, hb, hc⟩ := H.row
  have hn : NoRow w [gB] := NoRow.of hb (by decide)
  obtain ⟨cs, A0, c, cB, cM, k1, k2, k3, k4, k5⟩ := H.ex
  refine ⟨⟨cs, A0, c, cB, cM, k1.only o (by simp; omega), k2, by simpa using k3, k4, fun i hi => ⟨(k5 i hi).1, (k5 i hi).2.only o hn⟩⟩, ⟨_, hb.set_ j u, fun i x hx => ?_⟩, H.mem.only o (by simp; omega), Nat.lt_of_lt_of_le H.xlt o.size⟩
  have hget : ∀ q v, cs2[q]? = some v → (cs2.setIfInBounds j u)[q]? = some (if q = j then u else v) := fun q v hq => by
    obtain ⟨hlt, e⟩ := Array.getElem?_eq_some_iff.1 hq
    by_cases e2 : q = j
    · subst e2
      rw [if_pos rfl]
      simp [hlt]
    · rw [if_neg e2, Array.getElem?_setIfInBounds_ne (Ne.symm e2)]
      exact hq
  by_cases hi : i = A.length
  · subst hi
    obtain ⟨q0, q1, q2⟩ := hc A.length b (mid_get A C b)
    rw [mid_get] at hx
    cases hx
    refine ⟨(hget _ _ q0).trans ?_, (hget _ _ q1).trans ?_, (hget _ _ q2).trans ?_⟩
    · by_cases e : j = A.length * 3
      · rw [if_pos e] at h0; rw [if_pos e.symm, h0]
      · rw [if_neg e] at h0; rw [if_neg (Ne.symm e), h0]
    · by_cases e : j = A.length * 3 + 1
      · rw [if_pos e] at h1; rw [if_pos e.symm, h1]
      · rw [if_neg e] at h1; rw [if_neg (Ne.symm e), h1]
    · by_cases e : j = A.length * 3 + 2
      · rw [if_pos e] at h2; rw [if_pos e.symm, h2]
      · rw [if_neg e] at h2; rw [if_neg (Ne.symm e), h2]
  · have hx2 : (A ++ b :: C)[i]? = some x := by
      by_cases hlt : i < A.length
      · rw [List.getElem?_append_left hlt] at hx ⊢; exact hx
      · rw [List.getElem?_append_right (by omega)] at hx ⊢
        obtain ⟨d, hd⟩ : ∃ d, i - A.length = d + 1 := ⟨i - A.length - 1, by omega⟩
        rw [hd] at hx ⊢
        simpa using hx
    obtain ⟨q0, q1, q2⟩ := hc i x hx2
    exact ⟨(hget _ _ q0).trans (by rw [if_neg (by omega)]), (hget _ _ q1).trans (by rw [if_neg (by omega)]), (hget _ _ q2).trans (by rw [if_neg (by omega)])⟩
/-- One list anew. -/
theorem Dr.listSet {W W' : World} (H : Dr W r gB gM B L M) (o : Only [] W W') {p : Nat} (hp : p < 32) {A : Option Addr} {c base n : Nat} {l : List Nat} (hn : l.length = n) (hr : W'.ownsRow base 3 1 (.slice A n c) n (NV l)) (hb : r < base ∧ xc < base) :
    Dr (W'.setCell ⟨r, 1 + p, none⟩ (.slice A n c)) r gB gM B (fun d => if d = p then l else L d) M ∧ Only [r] W (W'.setCell ⟨r, 1 + p, none⟩ (.slice A n c)) := by
  subst hn
  have H' := H.only0 o
  have hne := H'.apart
  obtain ⟨cs, A0, c0, cB, cM, k1, k2, k3, k4, k5⟩ := H'.ex
  have o2 : Only [r] W' (W'.setCell ⟨r, 1 + p, none⟩ (.slice A l.length c)) := (Only.refl [r] W').setCell (p := ⟨r, 1 + p, none⟩) (.inl (by simp)) _
  have hnr : NoRow W' [r] := NoRow.of k1 (by decide)
  refine ⟨⟨⟨cs.setIfInBounds (1 + p) (.slice A l.length c), fun i => if i = p then A else A0 i, fun i => if i = p then c else c0 i, cB, cM, k1.set_ (1 + p) _, by simpa using k2, ?_, ?_, fun i hi => ?_⟩, H'.row.only o2 (by simp; omega), H'.mem.only o2 (by simp; omega), Nat.lt_of_lt_of_le H'.xlt o2.size⟩, (o.mono (by simp)).trans' o2⟩
  · refine ⟨?_, k3.2⟩
    rw [Array.getElem?_setIfInBounds_ne (by omega)]; exact k3.1
  · rw [Array.getElem?_setIfInBounds_ne (by omega)]; exact k4
  · by_cases e : i = p
    · subst e
      dsimp only
      rw [if_pos rfl, if_pos rfl, if_pos rfl]
      refine ⟨?_, (Row.own hr hb.2).only o2 hnr⟩
      rw [Array.getElem?_setIfInBounds_self_of_lt (by omega)]
    · dsimp only
      rw [if_neg e, if_neg e, if_neg e, Array.getElem?_setIfInBounds_ne (by omega)]
      exact ⟨(k5 i hi).1, (k5 i hi).2.only o2 hnr⟩
end
end Go.Proofs.YthlaoanfoimkfaaDoor
namespace Go.Proofs.YthlaoanfoimkfaaDoor
open Go.RowKit
set_option linter.unusedVariables false
set_option linter.all false
set_option maxRecDepth 100000
attribute [local go_sem ↓] app_hide
section
variable {w w' : World} {r gB gM N : Nat} {B A C : List Bk} {b : Bk} {L : Nat → List Nat} {M : List UInt8} {S : List Nat}
variable [HAdd Unit Unit Nat]
set_option maxHeartbeats 2000000 in
theorem dput_walk {i n t z c lL cB cB1 lc c2 : Nat} {LA A2 : Option Addr} {W1 w2 : World} {v0 : Bool} (hi : i < n) (hn : n ≤ 100000) (hc : c < 32) (hlL : lL ≤ 50000)
    (k0 : w.cell? ⟨r, 0, none⟩ = some (.slice (some ⟨gB, 0, none⟩) n cB)) (kb : w.cell? ⟨gB, i * 3 + 2, none⟩ = some (.bool v0)) (kf : w.frozen? ⟨gB, i * 3 + 2, none⟩ = false)
    (hW1 : w.setCell ⟨gB, i * 3 + 2, none⟩ (.bool true) = W1) (k01 : W1.cell? ⟨r, 0, none⟩ = some (.slice (some ⟨gB, 0, none⟩) n cB1)) (j0 : W1.cell? ⟨gB, i * 3, none⟩ = some (.int .i64 t)) (j1 : W1.cell? ⟨gB, i * 3 + 1, none⟩ = some (.int .i64 z))
    (CL : Calls Tryd.prog 60 #[.int .i64 z] W1 fun e w' => e = .returned (.int .i64 c) ∧ W1 = w') (kr : W1.cell? ⟨r, 1 + c, none⟩ = some (.slice LA lL lc))
    (e1 : (AppH #[29, 29] 29 #[.slice (some ⟨W1.heap.size, 0, none⟩) 1 1, .slice LA lL lc]).run Tryd.prog (W1.alloc (.cells #[.int .i64 (t : Int)] 3)).drew = .ok (.slice A2 (1 + lL) c2) w2)
    (m3 : w2.cell? ⟨r, 1 + c, none⟩ = some (.slice LA lL lc)) (n3 : w2.frozen? ⟨r, 1 + c, none⟩ = false) :
    Calls Tryd.prog 22 #[.pointer (some ⟨r, 0, none⟩), .int .i64 i] w fun e w' => e = .returned (.tuple #[]) ∧ w' = w2.setCell ⟨r, 1 + c, none⟩ (.slice A2 (1 + lL) c2) := by
  have i0 : (0 : Int) ≤ (i : Int) := by omega
  have i1 : (i : Int) < (n : Int) := by omega
  have c0 : (0 : Int) ≤ (c : Int) := by omega
  have c1 : (c : Int) < 32 := by omega
  replace CL := Lib.hid CL
  have m2 := cell_alloc (.cells #[.int .i64 (t : Int)] 3) kr
  go_enter Tryd.func22, Tryd.ntmps22
  go_wp2_with (first
    | (go_at_call 60; (with_reducible refine CL.out.mono ?_); rintro e w' ⟨rfl, rfl⟩)
    | (rw [hW1]))
  go_region
  all_goals go_wp2
  all_goals go_end0
  all_goals exact ⟨rfl, rfl⟩
theorem dput_any (H : Dr w r gB gM (A ++ b :: C) L M) (hl : (A ++ b :: C).length ≤ 100000) (hs : 16 ≤ b.size ∧ b.size < 65536) (hll : ∀ c, (L c).length ≤ 50000) :
    Calls Tryd.prog 22 #[.pointer (some ⟨r, 0, none⟩), .int .i64 A.length] w fun e w' => e = .returned (.tuple #[]) ∧ Only [r, gB] w w' ∧ Dr w' r gB gM (A ++ ⟨b.at', b.size, 1⟩ :: C) (insL L (cls b.size) b.at') M := by
  have hne := H.apart
  have hlt := H.lt
  obtain ⟨cB, k0⟩ := H.cB
  obtain ⟨kb0, kb1, kb2⟩ := H.bl (mid_get A C b)
  have kf : w.frozen? ⟨gB, A.length * 3 + 2, none⟩ = false := by obtain ⟨cs2, hb, hc⟩ := H.row; exact hb.frozen _
  have H1 : Dr (w.setCell ⟨gB, A.length * 3 + 2, none⟩ (.bool true)) r gB gM (A ++ ⟨b.at', b.size, 1⟩ :: C) L M :=
    H.rowSet (b' := ⟨b.at', b.size, 1⟩) (by omega) (by rw [if_neg (by omega)]) (by rw [if_neg (by omega)]) (by rw [if_pos rfl]; rfl)
  have o1 : Only [r, gB] w (w.setCell ⟨gB, A.length * 3 + 2, none⟩ (.bool true)) := (Only.refl [r, gB] w).setCell (.inl (by simp)) _
  have hsz1 : (w.setCell ⟨gB, A.length * 3 + 2, none⟩ (.bool true)).heap.size = w.heap.size := by simp
  have hn2 : (A ++ (⟨b.at', b.size, 1⟩ : Bk) :: C).length = (A ++ b :: C).length := by simp
  obtain ⟨W1, hW1⟩ : ∃ W1, w.setCell ⟨gB, A.length * 3 + 2, none⟩ (.bool true) = W1 := ⟨_, rfl⟩
  rw [hW1] at H1 o1 hsz1
  obtain ⟨cB1, k01⟩ := H1.cB
  rw [hn2] at k01
  obtain ⟨j0, j1, j2⟩ := H1.bl (mid_get A C ⟨b.at', b.size, 1⟩)
  simp only at j0 j1
  have hc26 := cls_le hs.1 (by omega : b.size < 131072)
  obtain ⟨LA, lc, kr, hrow⟩ := H1.cL (i := cls b.size) (by omega)
  have hlen := hll (cls b.size)
  obtain ⟨A2, c2, w2, e1, r1, oo1⟩ := app_src (W1.alloc (.cells #[.int .i64 (b.at' : Int)] 3)).drew W1.heap.size (some ⟨W1.heap.size, 0, none⟩) 1 [b.at'] LA lc (L (cls b.size)) 1 _ rfl rfl (own_new W1 b.at') (hrow.nsrc.only0 ((Only.refl [] W1).alloc _).drew) (by simp; omega) (by simp)
  have oA : Only [] W1 w2 := (((Only.refl [] W1).alloc (.cells #[.int .i64 (b.at' : Int)] 3)).drew).trans oo1 (fun k hk => .inr (by simp [blkOf] at hk; omega))
  have m3 := oA.keep kr (by simp)
  have fr : W1.frozen? ⟨r, 1 + cls b.size, none⟩ = false := by
    obtain ⟨cs, A0, cc, cB, cM, q1, _⟩ := H1.ex
    exact q1.frozen _
  have n3 := (oA.frozen (p := ⟨r, 1 + cls b.size, none⟩) (by show r < W1.heap.size; omega) (by simp)).trans fr
  have hxl := H1.xlt
  have G3 := H1.listSet oA (show cls b.size < 32 by omega) (by simp; omega) r1 (by omega)
  refine (dput_walk (by simp) hl (by omega) hlen k0 kb2 kf hW1 k01 j0 j1 (dclass_any W1 hs.1 (by omega)) kr e1 m3 n3).mono ?_
  rintro e w' ⟨rfl, rfl⟩
  exact ⟨rfl, o1.trans G3.2 (by simp), G3.1⟩
end
end Go.Proofs.YthlaoanfoimkfaaDoor
namespace Go.Proofs.YthlaoanfoimkfaaDoor
open Go.RowKit
set_option linter.unusedVariables false
set_option linter.all false
set_option maxRecDepth 100000
attribute [local go_sem ↓] app_hide
section
variable {w w' : World} {r gB gM N : Nat} {B A C : List Bk} {b : Bk} {L : Nat → List Nat} {M : List UInt8} {S : List Nat}
variable [HAdd Unit Unit Nat]
set_option maxHeartbeats 4000000 in
theorem dout_walk {i n z c : Nat} {W1 : World} {v0 : Bool} {cB : Nat} (hi : i < n) (hn : n ≤ 100000) (hc : c < 32)
    (k0 : w.cell? ⟨r, 0, none⟩ = some (.slice (some ⟨gB, 0, none⟩) n cB)) (kb : w.cell? ⟨gB, i * 3 + 2, none⟩ = some (.bool v0)) (kf : w.frozen? ⟨gB, i * 3 + 2, none⟩ = false)
    (hW1 : w.setCell ⟨gB, i * 3 + 2, none⟩ (.bool false) = W1) (H1 : Dr W1 r gB gM B L M) (hB : B.length = n) (hb : B[i]? = some b) (hz : b.size = z) (hll : (L c).length ≤ 50000)
    (CL : Calls Tryd.prog 60 #[.int .i64 z] W1 fun e w' => e = .returned (.int .i64 c) ∧ W1 = w') :
    Calls Tryd.prog 68 #[.pointer (some ⟨r, 0, none⟩), .int .i64 i] w fun e w' => e = .returned (.tuple #[]) ∧ Only [r] W1 w' ∧ Dr w' r gB gM B (rmL L c b.at') M := by
  have i0 : (0 : Int) ≤ (i : Int) := by omega
  have i1 : (i : Int) < (n : Int) := by omega
  have c0 : (0 : Int) ≤ (c : Int) := by omega
  have c1 : (c : Int) < 32 := by omega
  replace CL := Lib.hid CL
  obtain ⟨cB1, k01⟩ := H1.cB
  rw [hB] at k01
  have kz := (H1.bl hb).2.1
  rw [hz] at kz
  have HH := Lib.hid H1
  have HB := Lib.hid hB
  have HBB := Lib.hid hb
  have hrl := H1.lt.1
  clear H1 hB hb hz
  go_enter Tryd.func68, Tryd.ntmps68
  go_wp2_with (first
    | (go_at_call 60; (with_reducible refine CL.out.mono ?_); rintro e w' ⟨rfl, rfl⟩)
    | (rw [hW1]))
  obtain ⟨base, hbase⟩ : ∃ base, W1.heap.size = base := ⟨_, rfl⟩
  clear k0 kb kf k01 kz
  go_loopw [5, 6] (fun vl vk wr => ∃ (k nl cl : Nat) (Al : Option Addr), k ≤ (L c).length ∧ vk = .int .i64 k ∧ vl = .slice Al nl cl ∧ nl = (((L c).take k).filter (· ≠ b.at')).length ∧ nl ≤ k ∧ Hid (wr.ownsRow base 3 1 (.slice Al nl cl) nl (NV (((L c).take k).filter (· ≠ b.at')))) ∧ Hid (Only [] W1 wr)) (fun _ vk _ => (L c).length - (intOf vk).toNat)
  case atStart => exact ⟨0, 0, 0, none, Nat.zero_le _, rfl, rfl, rfl, Nat.le_refl _, Lib.hid (by simpa [NV] using World.ownsRow_nil ..), Lib.hid (Only.refl _ _)⟩
  case round =>
    obtain ⟨k, nl, cl, Al, hk, rfl, rfl, hnl, hnk, hown, ho⟩ := hrel
    have HW := HH.out.only0 ho.out
    obtain ⟨LA, lc, kl, hrow⟩ := HW.cL hc
    obtain ⟨cB2, k02⟩ := HW.cB
    rw [HB.out] at k02
    have kat := (HW.bl HBB.out).1
    by_cases hlt : k < (L c).length
    · have hj : (L c)[k]? = some (L c)[k] := List.getElem?_eq_getElem hlt
      obtain ⟨g, cs, rfl, hgb, hgc, _⟩ := hrow (by omega)
      have kx := (hgb.cell k).trans (hgc k _ hj)
      have htk : (L c).take (k + 1) = (L c).take k ++ [(L c)[k]] := by rw [List.take_add_one, hj]; rfl
      obtain ⟨x, hx⟩ : ∃ x, (L c)[k] = x := ⟨_, rfl⟩
      rw [hx] at kx htk
      have hfl : ((L c).take (k + 1)).filter (· ≠ b.at') = ((L c).take k).filter (· ≠ b.at') ++ (if x ≠ b.at' then [x] else []) := by
        rw [htk, List.filter_append]
        congr 1
        by_cases e : x = b.at' <;> simp [e]
      have q0 : (0 : Int) ≤ (k : Int) := by omega
      have q1 : (k : Int) < ((L c).length : Int) := by omega
      have HFL := Lib.hid hfl
      have HNL := Lib.hid hnl
      have hbs := ho.out.size
      have HKL := Lib.hid kl
      have HGB := Lib.hid hgb
      have HGC := Lib.hid (hgc k x (by rw [hj, hx]))
      clear hj hx htk hfl hnl hrow HW hgc
      by_cases he : x = b.at'
      · have hq : ((x : Int) == (b.at' : Int)) = true := by simp [he]
        go_wp2
        go_quiet (fail)
        have ho2 := Lib.hid (ho.out.drewN nq)
        have hown2 := Lib.hid (own_only' hown.out ((Only.refl [] wr).drewN nq) (by simp))
        go_wp2
        go_roundw
        case rel => exact ⟨k + 1, nl, cl, Al, by omega, by go_num, rfl, by rw [HFL.out, List.length_append, ← HNL.out]; simp [he], by omega, Lib.hid (by rw [HFL.out]; simpa [he] using hown2.out), ho2⟩
        case measure => first | (simp [intOf]; done) | (simp [intOf]; omega)
      · have hq : ((x : Int) == (b.at' : Int)) = false := by simp; omega
        obtain ⟨l0, hl0⟩ : ∃ l0, ((L c).take k).filter (· ≠ b.at') = l0 := ⟨_, rfl⟩
        rw [hl0] at hown HNL HFL
        go_wp2
        go_quiet (fail)
        have ho2 := ho.out.drewN nq
        have hown2 := own_only' hown.out ((Only.refl [] wr).drewN nq) (by simp)
        have kl2 := ((Only.refl [] wr).drewN nq).keep0 HKL.out
        have kx2 := ((Only.refl [] wr).drewN nq).keep0 kx
        obtain ⟨W5, hW5⟩ : ∃ W5, wr.drewN nq = W5 := ⟨_, rfl⟩
        rw [hW5] at ho2 hown2 kl2 kx2 ⊢
        have hbs5 := ho2.size
        obtain ⟨A2, c2, w2, e1, r1, oo1⟩ := app_src (W5.alloc (.cells #[.int .i64 (x : Int)] 3)) base Al cl l0 (some ⟨W5.heap.size, 0, none⟩) 1 [x] nl 1 HNL.out.symm rfl (own_only' hown2 ((Only.refl [] W5).alloc _) (by simp)) (Nsrc.own (own_new W5 x)) (by have := HNL.out; simp; omega) (by simp; omega)
        have oA : Only [] W1 w2 := (ho2.alloc (.cells #[.int .i64 (x : Int)] 3)).trans oo1 (fun q hq => .inr (by have := (own_ge hown2 q hq).1; omega))
        have HOA := Lib.hid oA
        have HR1 := Lib.hid r1
        clear oA r1 oo1 hown hown2 ho ho2 kx hW5
        go_wp2
        go_roundw
        case rel => exact ⟨k + 1, nl + 1, c2, A2, by omega, by go_num, rfl, by rw [HFL.out, List.length_append, ← HNL.out]; simp [he], by omega, Lib.hid (by rw [HFL.out]; simpa [he] using HR1.out), HOA⟩
        case measure => first | (simp [intOf]; done) | (simp [intOf]; omega)
    · obtain rfl : k = (L c).length := by omega
      have fr : wr.frozen? ⟨r, 1 + c, none⟩ = false := by
        obtain ⟨cs, A0, cc, cB, cM, q1, _⟩ := HW.ex
        exact q1.frozen _
      have hxl := HH.out.xlt
      have G3 := Lib.hid (HH.out.listSet ho.out hc hnl.symm hown.out (by omega))
      have HFIN : Hid (∀ W, Dr W r gB gM B (fun d => if d = c then ((L c).take (L c).length).filter (· ≠ b.at') else L d) M → Dr W r gB gM B (rmL L c b.at') M) := Lib.hid fun W h => by
        rw [List.take_length] at h; exact h
      clear HW hrow hown hnl
      go_wp2
      go_end0
      exact ⟨rfl, G3.out.2, HFIN.out _ G3.out.1⟩
theorem dout_any (H : Dr w r gB gM (A ++ b :: C) L M) (hl : (A ++ b :: C).length ≤ 100000) (hs : 16 ≤ b.size ∧ b.size < 65536) (hll : ∀ c, (L c).length ≤ 50000) :
    Calls Tryd.prog 68 #[.pointer (some ⟨r, 0, none⟩), .int .i64 A.length] w fun e w' => e = .returned (.tuple #[]) ∧ Only [r, gB] w w' ∧ Dr w' r gB gM (A ++ ⟨b.at', b.size, 2⟩ :: C) (rmL L (cls b.size) b.at') M := by
  have hne := H.apart
  obtain ⟨cB, k0⟩ := H.cB
  obtain ⟨kb0, kb1, kb2⟩ := H.bl (mid_get A C b)
  have kf : w.frozen? ⟨gB, A.length * 3 + 2, none⟩ = false := by obtain ⟨cs2, hb, hc⟩ := H.row; exact hb.frozen _
  have H1 : Dr (w.setCell ⟨gB, A.length * 3 + 2, none⟩ (.bool false)) r gB gM (A ++ ⟨b.at', b.size, 2⟩ :: C) L M :=
    H.rowSet (b' := ⟨b.at', b.size, 2⟩) (by omega) (by rw [if_neg (by omega)]) (by rw [if_neg (by omega)]) (by rw [if_pos rfl]; rfl)
  have o1 : Only [r, gB] w (w.setCell ⟨gB, A.length * 3 + 2, none⟩ (.bool false)) := (Only.refl [r, gB] w).setCell (.inl (by simp)) _
  have hc26 := cls_le hs.1 (by omega : b.size < 131072)
  refine (dout_walk (n := (A ++ b :: C).length) (by simp) hl (by omega : cls b.size < 32) k0 kb2 kf rfl H1 (by simp) (mid_get A C ⟨b.at', b.size, 2⟩) rfl (hll _) (dclass_any _ hs.1 (by show b.size < 131072; omega))).mono ?_
  rintro e w' ⟨rfl, o2, H2⟩
  exact ⟨rfl, o1.trans o2 (by simp), H2⟩
end
end Go.Proofs.YthlaoanfoimkfaaDoor
