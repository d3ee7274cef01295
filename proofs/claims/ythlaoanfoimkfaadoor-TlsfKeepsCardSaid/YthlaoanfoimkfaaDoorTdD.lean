/- Tlsf: its blocks' row. No condition but what each theorem says. -/
import Derived.Test.YthlaoanfoimkfaaDoorTdC
namespace Go.Proofs.YthlaoanfoimkfaaDoor
open Go.RowKit
set_option linter.unusedVariables false
set_option linter.all false
set_option maxRecDepth 100000
attribute [local go_sem ↓] app_hide
def TV1 (b : Bk) : List Value := [.int .i64 b.at', .int .i64 b.size, .bool (b.k == 1)]
def TV (B : List Bk) : List Value := B.flatMap TV1
theorem TV_append (A B : List Bk) : TV (A ++ B) = TV A ++ TV B := by simp [TV]
theorem TV_len (B : List Bk) : (TV B).length = B.length * 3 := by
  induction B with
  | nil => rfl
  | cons b B ih =>
    show (TV1 b ++ TV B).length = _
    rw [List.length_append, ih, List.length_cons]
    show 3 + _ = _
    omega
theorem TV_one (B : List Bk) : ∀ u ∈ TV B, u.oneCell' = true := by
  intro u hu
  obtain ⟨b, _, hb⟩ := List.mem_flatMap.1 hu
  simp [TV1] at hb
  rcases hb with rfl | rfl | rfl <;> rfl
theorem TV_get : ∀ (B : List Bk) (j : Nat) (u : Value), (TV B)[j]? = some u → ∃ b, B[j / 3]? = some b ∧ (TV1 b)[j % 3]? = some u
  | [], j, u, h => by simp [TV] at h
  | b :: B, j, u, h => by
    have h : (TV1 b ++ TV B)[j]? = some u := h
    by_cases hj : j < 3
    · rw [List.getElem?_append_left (by show j < 3; omega)] at h
      refine ⟨b, ?_, ?_⟩
      · rw [show j / 3 = 0 by omega]; rfl
      · rw [show j % 3 = j by omega]; exact h
    · rw [List.getElem?_append_right (by show 3 ≤ j; omega)] at h
      obtain ⟨c, h1, h2⟩ := TV_get B (j - 3) u h
      refine ⟨c, ?_, ?_⟩
      · rw [show j / 3 = (j - 3) / 3 + 1 by omega]; exact h1
      · rw [show j % 3 = (j - 3) % 3 by omega]; exact h2
theorem TV_at (B : List Bk) (q : Nat) (b : Bk) (h : B[q]? = some b) (s : Nat) (hs : s < 3) : (TV B)[q * 3 + s]? = (TV1 b)[s]? := by
  induction B generalizing q with
  | nil => simp at h
  | cons x B ih =>
    show (TV1 x ++ TV B)[q * 3 + s]? = _
    rcases q with _ | q
    · simp at h
      subst h
      rw [Nat.zero_mul, Nat.zero_add, List.getElem?_append_left (by show s < 3; omega)]
    · rw [List.getElem?_append_right (by show 3 ≤ (q + 1) * 3 + s; omega)]
      have := ih q (by simpa using h)
      rw [← this]
      congr 1
      show (q + 1) * 3 + s - 3 = _
      omega
theorem BRow.tv {w : World} {gB : Nat} {B : List Bk} (h : BRow w gB B) {j : Nat} {u : Value} (hj : (TV B)[j]? = some u) : w.cell? ⟨gB, j, none⟩ = some u := by
  obtain ⟨cs, hb, hc⟩ := h
  obtain ⟨b, h1, h2⟩ := TV_get B j u hj
  obtain ⟨q0, q1, q2⟩ := hc _ b h1
  rw [hb.cell j]
  have h3 : j % 3 < 3 := Nat.mod_lt _ (by omega)
  rcases (by omega : j % 3 = 0 ∨ j % 3 = 1 ∨ j % 3 = 2) with e | e | e
  · rw [e] at h2
    rw [show j = j / 3 * 3 by omega, q0]
    exact h2
  · rw [e] at h2
    rw [show j = j / 3 * 3 + 1 by omega, q1]
    exact h2
  · rw [e] at h2
    rw [show j = j / 3 * 3 + 2 by omega, q2]
    exact h2
theorem BRow.own {w : World} {base n c g : Nat} {B : List Bk} (h : w.ownsRow base 42 3 (.slice (some ⟨g, 0, none⟩) n c) n (TV B)) (hn : B.length = n) : BRow w g B ∧ base ≤ g := by
  rcases h.2 with ⟨hv, _⟩ | ⟨g', cap, cur, hv, hbase, hg, r⟩
  · simp at hv
  · simp only [Value.slice.injEq, Option.some.injEq, Addr.mk.injEq, and_true] at hv
    obtain ⟨rfl, _, _⟩ := hv
    refine ⟨⟨cur, hg, fun j b hj => ?_⟩, hbase⟩
    have hjl := (List.getElem?_eq_some_iff.1 hj).1
    have key : ∀ s, s < 3 → cur[j * 3 + s]? = (TV1 b)[s]? := fun s hs => by
      have h1 := h.cellAt (j * 3 + s) (by omega)
      rw [Blk.cell hg] at h1
      rw [h1]
      exact TV_at B j b hj s hs
    exact ⟨key 0 (by omega), key 1 (by omega), key 2 (by omega)⟩
theorem info42 : (Tryd.prog.info? 42).map (fun i => (i.zero, i.size, i.bytes)) = some (some (.agg #[.int .i64 0, .int .i64 0, .bool false]), 3, 24) := by kernel_rfl
/-- append(s, r...) at a slice of one's own, r blocks anywhere. -/
theorem app_bk (w : World) (base : Nat) (A0 : Option Addr) (c0 n0 n g off cc : Nat) (l r : List Bk) (hn0 : l.length = n0) (hn1 : r.length = n) (hrow : w.ownsRow base 42 3 (.slice A0 n0 c0) n0 (TV l)) (hs : ∀ j u, (TV r)[j]? = some u → w.cell? ⟨g, off + j, none⟩ = some u)
    (hn : n0 + n ≤ 200000) (hB : base ≤ w.heap.size) :
    ∃ (A1 : Option Addr) (c1 : Nat) (w2 : World), (AppH #[36, 36] 36 #[.slice A0 n0 c0, .slice (some ⟨g, off, none⟩) n cc]).run Tryd.prog w = .ok (.slice A1 (n0 + n) c1) w2 ∧ w2.ownsRow base 42 3 (.slice A1 (n0 + n) c1) (n0 + n) (TV (l ++ r)) ∧ Only (blkOf A0) w w2 := by
  obtain ⟨i0, hi, hz0, hz1, hz2⟩ := info_parts info42
  obtain ⟨v', w', hrun, h2, h3, h4, h5⟩ := run_append_own_at (P := Tryd.prog) w base 36 36 42 i0 (.agg #[.int .i64 0, .int .i64 0, .bool false]) 3 24 Tryd.underlying36 hi hz0 hz1 hz2 rfl (by omega) (.slice A0 n0 c0) n0 (TV l) hrow ⟨g, off, none⟩ n cc (TV r) (by rw [TV_len]; omega) (fun j u hj => by rw [add_mk]; exact hs j u hj) (TV_one r) (by unfold maxLen; omega) (by omega) hB
  rw [← TV_append] at h2
  obtain ⟨A1, c1, rfl⟩ : ∃ A1 c1, v' = .slice A1 (n0 + n) c1 := by
    rcases h2.2 with ⟨hv, hn⟩ | ⟨g, cap, cur, hv, _⟩
    · rw [hn]
      exact ⟨none, 0, hv⟩
    · exact ⟨_, _, hv⟩
  refine ⟨A1, c1, w', hrun, h2, (Only.refl _ w).grown h3 (fun k hk => .inl ?_)⟩
  rcases A0 with _ | a0
  · simp [Value.ownBlock] at hk
  · simp only [Value.ownBlock, Option.some.injEq] at hk
    simp [blkOf, hk]
theorem own_tri (W : World) (b : Bk) : ∀ j u, (TV [b])[j]? = some u → (W.alloc (.cells #[.int .i64 b.at', .int .i64 b.size, .bool (b.k == 1)] 42)).cell? ⟨W.heap.size, 0 + j, none⟩ = some u := fun j u hj => by
  rw [Nat.zero_add, (Blk.new W 42 _).cell j, ← Array.getElem?_toList]
  exact hj
section
variable {w w' : World} {r gB gM N : Nat} {B A C : List Bk} {b : Bk} {L : Nat → List Nat} {M : List UInt8} {S : List Nat}
variable [HAdd Unit Unit Nat]
/-- The blocks' row anew. -/
theorem Dr.blockSet {W W' : World} {B' : List Bk} (H : Dr W r gB gM B L M) (o : Only [] W W') {A : Option Addr} {c base n : Nat} (hn : B'.length = n) (hpos : 0 < n) (hr : W'.ownsRow base 42 3 (.slice A n c) n (TV B')) (hb : r < base ∧ gM < base) :
    ∃ gB', base ≤ gB' ∧ Dr (W'.setCell ⟨r, 0, none⟩ (.slice A n c)) r gB' gM B' L M ∧ Only [r] W (W'.setCell ⟨r, 0, none⟩ (.slice A n c)) := by
  have H' := H.only0 o
  have hne := H'.apart
  obtain ⟨g, rfl, _, _⟩ := own_cell hr hpos
  obtain ⟨q1, q2⟩ := BRow.own hr hn
  obtain ⟨cd, hcd⟩ : ∃ cd, c = B'.length + cd := ⟨c - B'.length, by have := (own_cap hr).1; omega⟩
  obtain ⟨cs, A0, c0, cB, cM, k1, k2, k3, k4, k5⟩ := H'.ex
  have o2 : Only [r] W' (W'.setCell ⟨r, 0, none⟩ (.slice (some ⟨g, 0, none⟩) n c)) := (Only.refl [r] W').setCell (p := ⟨r, 0, none⟩) (.inl (by simp)) _
  have hnr : NoRow W' [r] := NoRow.of k1 (by decide)
  refine ⟨g, q2, ⟨⟨cs.setIfInBounds 0 (.slice (some ⟨g, 0, none⟩) n c), A0, c0, cd, cM, k1.set_ 0 _, by simpa using k2, ?_, ?_, fun i hi => ⟨?_, (k5 i hi).2.only o2 hnr⟩⟩, q1.only o2 (by simp; omega), H'.mem.only o2 (by simp; omega), Nat.lt_of_lt_of_le H'.xlt o2.size⟩, (o.mono (by simp)).trans' o2⟩
  · refine ⟨by rw [Array.getElem?_setIfInBounds_self_of_lt (by omega), ← hcd, hn], ?_⟩
    have := (own_cap hr).2
    unfold maxLen at this
    omega
  · rw [Array.getElem?_setIfInBounds_ne (by omega)]; exact k4
  · rw [Array.getElem?_setIfInBounds_ne (by omega)]; exact (k5 i hi).1
end
end Go.Proofs.YthlaoanfoimkfaaDoor
namespace Go.Proofs.YthlaoanfoimkfaaDoor
open Go.RowKit
set_option linter.unusedVariables false
set_option linter.all false
set_option maxRecDepth 100000
attribute [local go_sem ↓] app_hide
section
variable {w w' : World} {r gB gM N : Nat} {B A C : List Bk} {b : Bk} {L : Nat → List Nat} {M : List UInt8} {S : List Nat}
variable [HAdd Unit Unit Nat]
set_option maxHeartbeats 2000000 in
theorem djoin_walk {i n s s2 cB c1 c2 : Nat} {A1 A2 : Option Addr} {W1 w2 w3 : World} (hi : i + 1 < n) (hn : n ≤ 100000) (hs : s < 100000) (hs2 : s2 < 100000) (hcB : n ≤ cB) (hcm : cB ≤ 9223372036854775807)
    (k0 : w.cell? ⟨r, 0, none⟩ = some (.slice (some ⟨gB, 0, none⟩) n cB)) (kb1 : w.cell? ⟨gB, i * 3 + 1, none⟩ = some (.int .i64 s)) (kb2 : w.cell? ⟨gB, (i + 1) * 3 + 1, none⟩ = some (.int .i64 s2)) (kf : w.frozen? ⟨gB, i * 3 + 1, none⟩ = false)
    (hW1 : w.drew.setCell ⟨gB, i * 3 + 1, none⟩ (.int .i64 ((s : Int) + (s2 : Int))) = W1) (k01 : W1.cell? ⟨r, 0, none⟩ = some (.slice (some ⟨gB, 0, none⟩) n cB))
    (e1 : (AppH #[36, 36] 36 #[.slice none 0 0, .slice (some ⟨gB, 0, none⟩) (i + 1) cB]).run Tryd.prog W1.drew = .ok (.slice A1 (i + 1) c1) w2)
    (e2 : (AppH #[36, 36] 36 #[.slice A1 (i + 1) c1, .slice (if cB = i + 2 then some ⟨gB, 0, none⟩ else some ⟨gB, (i + 2) * 3, none⟩) (n - (i + 2)) (cB - (i + 2))]).run Tryd.prog w2 = .ok (.slice A2 (n - 1) c2) w3)
    (m2 : w2.cell? ⟨r, 0, none⟩ = some (.slice (some ⟨gB, 0, none⟩) n cB)) (m3 : w3.cell? ⟨r, 0, none⟩ = some (.slice (some ⟨gB, 0, none⟩) n cB)) (n3 : w3.frozen? ⟨r, 0, none⟩ = false) :
    Calls Tryd.prog 69 #[.pointer (some ⟨r, 0, none⟩), .int .i64 i] w fun e w' => e = .returned (.tuple #[]) ∧ w' = w3.setCell ⟨r, 0, none⟩ (.slice A2 (n - 1) c2) := by
  have i0 : (0 : Int) ≤ (i : Int) := by omega
  have i1 : (i : Int) < (n : Int) := by omega
  have i2 : (i : Int) + 1 < (n : Int) := by omega
  have i3 : (i : Int) + 2 ≤ (n : Int) := by omega
  go_enter Tryd.func69, Tryd.ntmps69
  go_wp2
  go_region
  all_goals go_wp2
  all_goals go_region
  all_goals go_wp2
  all_goals go_end0
  all_goals exact ⟨rfl, rfl⟩
theorem if_addr (c : Prop) [Decidable c] (g x : Nat) : (if c then some (⟨g, 0, none⟩ : Addr) else some ⟨g, x, none⟩) = some ⟨g, if c then 0 else x, none⟩ := by split <;> rfl
theorem djoin_any {c : Bk} {k : Nat} (H : Dr w r gB gM (A ++ b :: c :: C) L M) (hl : (A ++ b :: c :: C).length ≤ 90000) (hs : b.size < 65536) (hs2 : c.size < 65536) (hk : (b.k == 1) = (k == 1)) :
    Calls Tryd.prog 69 #[.pointer (some ⟨r, 0, none⟩), .int .i64 A.length] w fun e w' => e = .returned (.tuple #[]) ∧ Only [r, gB] w w' ∧ ∃ gB', w.heap.size ≤ gB' ∧ Dr w' r gB' gM (A ++ ⟨b.at', b.size + c.size, k⟩ :: C) L M := by
  have hne := H.apart
  have hlt := H.lt
  obtain ⟨cB, hcB, hcm, k0⟩ := H.bcap
  have kb1 := (H.bl (mid_get A (c :: C) b)).2.1
  have hget : (A ++ b :: c :: C)[A.length + 1]? = some c := by rw [List.getElem?_append_right (by omega)]; simp
  have kb2 := (H.bl hget).2.1
  have kf : w.frozen? ⟨gB, A.length * 3 + 1, none⟩ = false := by obtain ⟨cs2, hb, hc⟩ := H.row; exact hb.frozen _
  have Hd : Dr w.drew r gB gM (A ++ b :: c :: C) L M := H.only0 (Only.refl [] w).drew
  have H1 : Dr (w.drew.setCell ⟨gB, A.length * 3 + 1, none⟩ (.int .i64 ((b.size : Int) + (c.size : Int)))) r gB gM (A ++ ⟨b.at', b.size + c.size, k⟩ :: c :: C) L M :=
    Hd.rowSet (b' := ⟨b.at', b.size + c.size, k⟩) (by omega) (by rw [if_neg (by omega)]) (by rw [if_pos rfl]; push_cast; rfl) (by rw [if_neg (by omega)]; exact hk.symm)
  have o1 : Only [r, gB] w (w.drew.setCell ⟨gB, A.length * 3 + 1, none⟩ (.int .i64 ((b.size : Int) + (c.size : Int)))) := ((Only.refl [r, gB] w).drew).setCell (.inl (by simp)) _
  obtain ⟨W1, hW1⟩ : ∃ W1, w.drew.setCell ⟨gB, A.length * 3 + 1, none⟩ (.int .i64 ((b.size : Int) + (c.size : Int))) = W1 := ⟨_, rfl⟩
  rw [hW1] at H1 o1
  have hsz : w.heap.size ≤ W1.heap.size := o1.size
  have k01 : W1.cell? ⟨r, 0, none⟩ = some (.slice (some ⟨gB, 0, none⟩) (A ++ b :: c :: C).length cB) := by
    have : (w.drew.setCell ⟨gB, A.length * 3 + 1, none⟩ (.int .i64 ((b.size : Int) + (c.size : Int)))).cell? ⟨r, 0, none⟩ = w.cell? ⟨r, 0, none⟩ := ((Only.refl [gB] w).drew.setCell (.inl (by simp)) _).cell (p := ⟨r, 0, none⟩) hlt.1 (by simp; omega)
    rw [hW1] at this
    rw [this]; exact k0
  have H1d : Dr W1.drew r gB gM (A ++ ⟨b.at', b.size + c.size, k⟩ :: c :: C) L M := H1.only0 (Only.refl [] W1).drew
  have hT : TV (A ++ ⟨b.at', b.size + c.size, k⟩ :: c :: C) = TV (A ++ [⟨b.at', b.size + c.size, k⟩]) ++ (TV [c] ++ TV C) := by rw [← TV_append, ← TV_append]; simp
  obtain ⟨A1, c1, w2, e1, r1, q1⟩ := app_bk W1.drew W1.heap.size none 0 0 (A.length + 1) gB 0 cB [] (A ++ [⟨b.at', b.size + c.size, k⟩]) rfl (by simp) (by simpa [TV] using World.ownsRow_nil ..) (fun j u hj => by
    rw [Nat.zero_add]
    refine H1d.row.tv ?_
    rw [hT, List.getElem?_append_left (List.getElem?_eq_some_iff.1 hj).1]; exact hj) (by simp at hl; omega) (Nat.le_refl _)
  rw [List.nil_append, Nat.zero_add] at r1
  rw [Nat.zero_add] at e1
  have o2 : Only [] W1 w2 := ((Only.refl [] W1).drew).trans q1 (by simp [blkOf])
  have H2 := H1.only0 o2
  obtain ⟨A2, c2, w3, e2, r2, q2⟩ := app_bk w2 W1.heap.size A1 c1 (A.length + 1) ((A ++ b :: c :: C).length - (A.length + 2)) gB (if cB = A.length + 2 then 0 else (A.length + 2) * 3) (cB - (A.length + 2)) (A ++ [⟨b.at', b.size + c.size, k⟩]) C (by simp) (by simp; omega) r1 (fun j u hj => by
    have hjl := (List.getElem?_eq_some_iff.1 hj).1
    rw [TV_len] at hjl
    have hcl : cB ≠ A.length + 2 := by simp at hcB; omega
    rw [if_neg hcl]
    refine H2.row.tv ?_
    rw [hT, List.getElem?_append_right (by rw [TV_len]; simp; omega), List.getElem?_append_right (by rw [TV_len, TV_len]; simp; omega), TV_len, TV_len]
    rw [← hj]
    congr 1
    simp
    omega) (by simp at hl ⊢; omega) o2.size
  have o3 : Only [] W1 w3 := o2.trans q2 (fun x hx => .inr (own_ge r1 x hx).1)
  have en : A.length + 1 + ((A ++ b :: c :: C).length - (A.length + 2)) = (A ++ b :: c :: C).length - 1 := by simp; omega
  rw [en] at e2 r2
  have es : (A ++ [(⟨b.at', b.size + c.size, k⟩ : Bk)]) ++ C = A ++ ⟨b.at', b.size + c.size, k⟩ :: C := by simp
  rw [es] at r2
  obtain ⟨gB', hg1, D3, o4⟩ := H1.blockSet o3 (by simp; try omega) (by simp; try omega) r2 (by omega)
  have m2 := o2.keep0 k01
  have m3 := o3.keep0 k01
  have f1 : W1.frozen? ⟨r, 0, none⟩ = false := by
    obtain ⟨cs, A0, cc, cB, cM, q1, _⟩ := H1.ex
    exact q1.frozen _
  have n3 := (o3.frozen (p := ⟨r, 0, none⟩) (by show r < W1.heap.size; omega) (by simp)).trans f1
  refine (djoin_walk (s := b.size) (s2 := c.size) (by simp; try omega) (by omega) (by omega) (by omega) hcB hcm k0 kb1 kb2 kf hW1 k01 e1 (by rw [if_addr]; exact e2) m2 m3 n3).mono ?_
  rintro e w' ⟨rfl, rfl⟩
  exact ⟨rfl, o1.trans o4 (by simp), gB', by omega, D3⟩
end
end Go.Proofs.YthlaoanfoimkfaaDoor
namespace Go.Proofs.YthlaoanfoimkfaaDoor
open Go.RowKit
set_option linter.unusedVariables false
set_option linter.all false
set_option maxRecDepth 100000
attribute [local go_sem ↓] app_hide
section
variable {w w' : World} {r gB gM N : Nat} {B A C : List Bk} {b : Bk} {L : Nat → List Nat} {M : List UInt8} {S : List Nat}
variable [HAdd Unit Unit Nat]
theorem dsplit_no (H : Dr w r gB gM (A ++ b :: C) L M) (hl : (A ++ b :: C).length ≤ 90000) (hs : b.size < 65536) {z : Nat} (hz : z < 100000) (hlt : b.size - z < 16) :
    Calls Tryd.prog 64 #[.pointer (some ⟨r, 0, none⟩), .int .i64 A.length, .int .i64 z] w fun e w' => e = .returned (.bool false) ∧ w = w' := by
  obtain ⟨cB, k0⟩ := H.cB
  have kb := (H.bl (mid_get A C b)).2.1
  have i0 : (0 : Int) ≤ (A.length : Int) := by omega
  have i1 : (A.length : Int) < ((A ++ b :: C).length : Int) := by simp; omega
  have hc : (b.size : Int) - (z : Int) < 16 := by omega
  generalize (A ++ b :: C).length + cB = cc at *
  generalize (A ++ b :: C).length = n at *
  generalize A.length = i at *
  clear H
  go_enter Tryd.func64, Tryd.ntmps64
  go_wp2
  go_ret
  exact ⟨rfl, rfl⟩
set_option maxHeartbeats 4000000 in
theorem dsplit_walk {i n s z t cB : Nat} {W2 : World} {A1 A2 A3 B1 B2 B3 : Option Addr} {c1 c2 c3 d1 d2 d3 : Nat} {w3 w4 w5 v3 v4 v5 : World} (hi : i < n) (hn : n ≤ 100000) (hs : s < 100000) (hz : z < 100000) (ht : t < 100000) (hlt : 16 ≤ s - z) (hcB : n ≤ cB) (hcm : cB ≤ 9223372036854775807)
    (k0 : w.cell? ⟨r, 0, none⟩ = some (.slice (some ⟨gB, 0, none⟩) n cB)) (kb0 : w.cell? ⟨gB, i * 3, none⟩ = some (.int .i64 t)) (kb1 : w.cell? ⟨gB, i * 3 + 1, none⟩ = some (.int .i64 s)) (kf : w.frozen? ⟨gB, i * 3 + 1, none⟩ = false)
    (hrl : r < w.heap.size) (hgl : gB < w.heap.size) (hW2 : (w.alloc (.cells #[.int .i64 ((t : Int) + (z : Int)), .int .i64 ((s : Int) - (z : Int)), .bool false] 42)).setCell ⟨gB, i * 3 + 1, none⟩ (.int .i64 z) = W2) (k02 : W2.cell? ⟨r, 0, none⟩ = some (.slice (some ⟨gB, 0, none⟩) n cB))
    (kx : ∀ V, Only [] W2 V → V.cell? ⟨w.heap.size, 0, none⟩ = some (.int .i64 ((t : Int) + (z : Int))) ∧ V.cell? ⟨w.heap.size, 1, none⟩ = some (.int .i64 ((s : Int) - (z : Int))) ∧ V.cell? ⟨w.heap.size, 2, none⟩ = some (.bool false)) (kr : ∀ V, Only [] W2 V → V.cell? ⟨r, 0, none⟩ = some (.slice (some ⟨gB, 0, none⟩) n cB) ∧ V.frozen? ⟨r, 0, none⟩ = false)
    (oA : Only [] W2 w3 ∧ Only [] W2 w4 ∧ Only [] W2 w5) (oB : Only [] W2 v3 ∧ Only [] W2 v4 ∧ Only [] W2 v5)
    (e1 : (AppH #[36, 36] 36 #[.slice none 0 0, .slice (some ⟨gB, 0, none⟩) (i + 1) cB]).run Tryd.prog W2.drew = .ok (.slice A1 (i + 1) c1) w3)
    (e2 : (AppH #[36, 36] 36 #[.slice A1 (i + 1) c1, .slice (some ⟨w3.heap.size, 0, none⟩) 1 1]).run Tryd.prog (w3.alloc (.cells #[.int .i64 ((t : Int) + (z : Int)), .int .i64 ((s : Int) - (z : Int)), .bool false] 42)) = .ok (.slice A2 (i + 2) c2) w4)
    (e3 : (AppH #[36, 36] 36 #[.slice A2 (i + 2) c2, .slice (if cB = i + 1 then some ⟨gB, 0, none⟩ else some ⟨gB, (i + 1) * 3, none⟩) (n - (i + 1)) (cB - (i + 1))]).run Tryd.prog w4 = .ok (.slice A3 (n + 1) c3) w5)
    (f1 : (AppH #[36, 36] 36 #[.slice none 0 0, .slice (some ⟨gB, 0, none⟩) (i + 1) cB]).run Tryd.prog (W2.alloc (.cells #[.int .i64 ((t : Int) + (z : Int)), .int .i64 ((s : Int) - (z : Int)), .bool false] 42)).drew = .ok (.slice B1 (i + 1) d1) v3)
    (f2 : (AppH #[36, 36] 36 #[.slice B1 (i + 1) d1, .slice (some ⟨W2.heap.size, 0, none⟩) 1 1]).run Tryd.prog v3 = .ok (.slice B2 (i + 2) d2) v4)
    (f3 : (AppH #[36, 36] 36 #[.slice B2 (i + 2) d2, .slice (if cB = i + 1 then some ⟨gB, 0, none⟩ else some ⟨gB, (i + 1) * 3, none⟩) (n - (i + 1)) (cB - (i + 1))]).run Tryd.prog v4 = .ok (.slice B3 (n + 1) d3) v5) :
    Calls Tryd.prog 64 #[.pointer (some ⟨r, 0, none⟩), .int .i64 i, .int .i64 z] w fun e w' => e = .returned (.bool true) ∧ (w' = w5.setCell ⟨r, 0, none⟩ (.slice A3 (n + 1) c3) ∨ w' = v5.setCell ⟨r, 0, none⟩ (.slice B3 (n + 1) d3)) := by
  have i0 : (0 : Int) ≤ (i : Int) := by omega
  have i1 : (i : Int) < (n : Int) := by omega
  have i3 : (i : Int) + 1 ≤ (n : Int) := by omega
  have hc : ¬ (s : Int) - (z : Int) < 16 := by omega
  have kq := cell_alloc (.cells #[.int .i64 ((t : Int) + (z : Int)), .int .i64 ((s : Int) - (z : Int)), .bool false] 42) k0
  have kqb := cell_alloc (.cells #[.int .i64 ((t : Int) + (z : Int)), .int .i64 ((s : Int) - (z : Int)), .bool false] 42) kb1
  have kqf : (w.alloc (.cells #[.int .i64 ((t : Int) + (z : Int)), .int .i64 ((s : Int) - (z : Int)), .bool false] 42)).frozen? ⟨gB, i * 3 + 1, none⟩ = false := (((Only.refl [] w).alloc _).frozen (p := ⟨gB, i * 3 + 1, none⟩) hgl (by simp)).trans kf
  have xa := kx W2 (Only.refl _ _)
  obtain ⟨xa0, xa1, xa2⟩ := xa
  obtain ⟨xb0, xb1, xb2⟩ := kx _ oA.1
  obtain ⟨xc0, xc1, xc2⟩ := kx _ ((Only.refl [] W2).alloc (.cells #[.int .i64 ((t : Int) + (z : Int)), .int .i64 ((s : Int) - (z : Int)), .bool false] 42))
  obtain ⟨xd0, xd1, xd2⟩ := kx _ oB.1
  obtain ⟨ra, _⟩ := kr W2 (Only.refl _ _)
  obtain ⟨rb, _⟩ := kr _ oA.1
  obtain ⟨rc, _⟩ := kr _ oA.2.1
  obtain ⟨rd, fd⟩ := kr _ oA.2.2
  obtain ⟨re, _⟩ := kr _ oB.1
  obtain ⟨rf, _⟩ := kr _ oB.2.1
  obtain ⟨rg, fg⟩ := kr _ oB.2.2
  obtain ⟨rh, _⟩ := kr _ ((Only.refl [] W2).alloc (.cells #[.int .i64 ((t : Int) + (z : Int)), .int .i64 ((s : Int) - (z : Int)), .bool false] 42))
  obtain ⟨ri, _⟩ := kr _ (oA.1.alloc (.cells #[.int .i64 ((t : Int) + (z : Int)), .int .i64 ((s : Int) - (z : Int)), .bool false] 42))
  clear kx kr oA oB
  go_enter Tryd.func64, Tryd.ntmps64
  go_wp2_with (rw [hW2])
  go_region
  all_goals go_wp2
  all_goals go_ret
  all_goals first | exact ⟨rfl, .inl rfl⟩ | exact ⟨rfl, .inr rfl⟩
end
end Go.Proofs.YthlaoanfoimkfaaDoor
namespace Go.Proofs.YthlaoanfoimkfaaDoor
open Go.RowKit
set_option linter.unusedVariables false
set_option linter.all false
set_option maxRecDepth 100000
section
variable {w w' : World} {r gB gM N : Nat} {B A C : List Bk} {b : Bk} {L : Nat → List Nat} {M : List UInt8} {S : List Nat}
variable [HAdd Unit Unit Nat]
theorem dsplit_yes {z k : Nat} (H : Dr w r gB gM (A ++ b :: C) L M) (hl : (A ++ b :: C).length ≤ 90000) (hs : b.size < 65536) (ht : b.at' < 65536) (hlt : 16 ≤ b.size - z) (hk : (b.k == 1) = (k == 1)) :
    Calls Tryd.prog 64 #[.pointer (some ⟨r, 0, none⟩), .int .i64 A.length, .int .i64 z] w fun e w' => e = .returned (.bool true) ∧ Only [r, gB] w w' ∧ ∃ gB', w.heap.size ≤ gB' ∧ Dr w' r gB' gM (A ++ ⟨b.at', z, k⟩ :: ⟨b.at' + z, b.size - z, 2⟩ :: C) L M := by
  have hne := H.apart
  have hlt0 := H.lt
  obtain ⟨cB, hcB, hcm, k0⟩ := H.bcap
  have kb := H.bl (mid_get A C b)
  have kf : w.frozen? ⟨gB, A.length * 3 + 1, none⟩ = false := by obtain ⟨cs2, hb, hc⟩ := H.row; exact hb.frozen _
  obtain ⟨X, hX⟩ : ∃ X : Array Value, X = #[.int .i64 ((b.at' : Int) + (z : Int)), .int .i64 ((b.size : Int) - (z : Int)), .bool false] := ⟨_, rfl⟩
  obtain ⟨x, hx⟩ : ∃ x : Bk, x = ⟨b.at' + z, b.size - z, 2⟩ := ⟨_, rfl⟩
  have hXx : X = #[.int .i64 x.at', .int .i64 x.size, .bool (x.k == 1)] := by
    rw [hX, hx]
    have : ((b.size - z : Nat) : Int) = (b.size : Int) - (z : Int) := by omega
    simp [this]
  have H0 : Dr (w.alloc (.cells X 42)) r gB gM (A ++ b :: C) L M := H.only0 ((Only.refl [] w).alloc _)
  have H2 : Dr ((w.alloc (.cells X 42)).setCell ⟨gB, A.length * 3 + 1, none⟩ (.int .i64 z)) r gB gM (A ++ ⟨b.at', z, k⟩ :: C) L M :=
    H0.rowSet (b' := ⟨b.at', z, k⟩) (by omega) (by rw [if_neg (by omega)]) (by rw [if_pos rfl]) (by rw [if_neg (by omega)]; exact hk.symm)
  have o2 : Only [r, gB] w ((w.alloc (.cells X 42)).setCell ⟨gB, A.length * 3 + 1, none⟩ (.int .i64 z)) := ((Only.refl [r, gB] w).alloc _).setCell (.inl (by simp)) _
  have o2g : Only [gB] w ((w.alloc (.cells X 42)).setCell ⟨gB, A.length * 3 + 1, none⟩ (.int .i64 z)) := ((Only.refl [gB] w).alloc _).setCell (.inl (by simp)) _
  have bx : Blk ((w.alloc (.cells X 42)).setCell ⟨gB, A.length * 3 + 1, none⟩ (.int .i64 z)) w.heap.size 42 X := (Blk.new w 42 X).far (by show w.heap.size ≠ gB; omega) _
  obtain ⟨W2, hW2⟩ : ∃ W2, (w.alloc (.cells X 42)).setCell ⟨gB, A.length * 3 + 1, none⟩ (.int .i64 z) = W2 := ⟨_, rfl⟩
  rw [hW2] at H2 o2 o2g bx
  have hsz : w.heap.size ≤ W2.heap.size := o2.size
  have k02 : W2.cell? ⟨r, 0, none⟩ = some (.slice (some ⟨gB, 0, none⟩) (A ++ b :: C).length cB) := (o2g.cell (p := ⟨r, 0, none⟩) hlt0.1 (by simp; omega)).trans k0
  have fr2 : W2.frozen? ⟨r, 0, none⟩ = false := by
    obtain ⟨cs, A0, cc, cB, cM, q1, _⟩ := H2.ex
    exact q1.frozen _
  have hT : TV (A ++ ⟨b.at', z, k⟩ :: C) = TV (A ++ [⟨b.at', z, k⟩]) ++ TV C := by rw [← TV_append]; simp
  have pre : ∀ V, Only [] W2 V → ∀ j u, (TV (A ++ [(⟨b.at', z, k⟩ : Bk)]))[j]? = some u → V.cell? ⟨gB, 0 + j, none⟩ = some u := fun V o j u hj => by
    rw [Nat.zero_add]
    refine (H2.only0 o).row.tv ?_
    rw [hT, List.getElem?_append_left (List.getElem?_eq_some_iff.1 hj).1]; exact hj
  have post : ∀ V, Only [] W2 V → ∀ j u, (TV C)[j]? = some u → V.cell? ⟨gB, (if cB = A.length + 1 then 0 else (A.length + 1) * 3) + j, none⟩ = some u := fun V o j u hj => by
    have hjl := (List.getElem?_eq_some_iff.1 hj).1
    rw [TV_len] at hjl
    have hcl : cB ≠ A.length + 1 := by simp at hcB; omega
    rw [if_neg hcl]
    refine (H2.only0 o).row.tv ?_
    rw [hT, List.getElem?_append_right (by rw [TV_len]; simp), TV_len, ← hj]
    congr 1
    simp
  have hlC : C.length = (A ++ b :: C).length - (A.length + 1) := by simp; omega
  have hfin : A.length + 2 + ((A ++ b :: C).length - (A.length + 1)) = (A ++ b :: C).length + 1 := by simp; omega
  have hfinB : ((A ++ [(⟨b.at', z, k⟩ : Bk)]) ++ [x]) ++ C = A ++ ⟨b.at', z, k⟩ :: x :: C := by simp
  have hlA : (A ++ [(⟨b.at', z, k⟩ : Bk)]).length = A.length + 1 := by simp
  have hlA2 : ((A ++ [(⟨b.at', z, k⟩ : Bk)]) ++ [x]).length = A.length + 2 := by simp
  have hlB : (A ++ ⟨b.at', z, k⟩ :: x :: C).length = (A ++ b :: C).length + 1 := by simp; omega
  have hl2 : (A ++ b :: C).length ≥ A.length + 1 := by simp
  obtain ⟨A1, c1, w3, e1, r1, q1⟩ := app_bk (W2.drew) W2.heap.size none 0 0 (A.length + 1) gB 0 cB [] (A ++ [⟨b.at', z, k⟩]) rfl hlA (by simpa [TV] using World.ownsRow_nil ..) (pre _ ((Only.refl [] W2).drew)) (by omega) (by have := ((Only.refl [] W2).drew).size; omega)
  rw [List.nil_append, Nat.zero_add] at r1
  rw [Nat.zero_add] at e1
  have ow3 : Only [] W2 w3 := ((Only.refl [] W2).drew).trans q1 (by simp [blkOf])
  obtain ⟨A2, c2, w4, e2, r2, q2⟩ := app_bk (w3.alloc (.cells X 42)) W2.heap.size A1 c1 (A.length + 1) 1 w3.heap.size 0 1 (A ++ [⟨b.at', z, k⟩]) [x] hlA rfl (own_only' r1 ((Only.refl [] w3).alloc _) (by simp)) (by rw [hXx]; exact own_tri w3 x) (by omega) (by have := ow3.size; simp; omega)
  have ow4 : Only [] W2 w4 := (ow3.alloc (.cells X 42)).trans q2 (fun y hy => .inr (own_ge r1 y hy).1)
  obtain ⟨A3, c3, w5, e3, r3, q3⟩ := app_bk w4 W2.heap.size A2 c2 (A.length + 2) ((A ++ b :: C).length - (A.length + 1)) gB (if cB = A.length + 1 then 0 else (A.length + 1) * 3) (cB - (A.length + 1)) _ C hlA2 hlC r2 (post _ ow4) (by omega) ow4.size
  have ow5 : Only [] W2 w5 := ow4.trans q3 (fun y hy => .inr (own_ge r2 y hy).1)
  rw [hfin] at e3 r3
  rw [hfinB] at r3
  obtain ⟨B1, d1, v3, f1, s1, p1⟩ := app_bk ((W2.alloc (.cells X 42)).drew) W2.heap.size none 0 0 (A.length + 1) gB 0 cB [] (A ++ [⟨b.at', z, k⟩]) rfl hlA (by simpa [TV] using World.ownsRow_nil ..) (pre _ (((Only.refl [] W2).alloc (.cells X 42)).drew)) (by omega) (by have := (((Only.refl [] W2).alloc (.cells X 42)).drew).size; omega)
  rw [List.nil_append, Nat.zero_add] at s1
  rw [Nat.zero_add] at f1
  have ov3 : Only [] W2 v3 := (((Only.refl [] W2).alloc (.cells X 42)).drew).trans p1 (by simp [blkOf])
  obtain ⟨B2, d2, v4, f2, s2, p2⟩ := app_bk v3 W2.heap.size B1 d1 (A.length + 1) 1 W2.heap.size 0 1 (A ++ [⟨b.at', z, k⟩]) [x] hlA rfl s1 (fun j u hj => by
    have h1 := own_tri W2 x j u hj
    rw [← hXx] at h1
    have h2 : Only [] (W2.alloc (.cells X 42)) v3 := ((Only.refl [] (W2.alloc (.cells X 42))).drew).trans p1 (by simp [blkOf])
    exact h2.keep0 h1) (by omega) ov3.size
  have ov4 : Only [] W2 v4 := ov3.trans p2 (fun y hy => .inr (own_ge s1 y hy).1)
  obtain ⟨B3, d3, v5, f3, s3, p3⟩ := app_bk v4 W2.heap.size B2 d2 (A.length + 2) ((A ++ b :: C).length - (A.length + 1)) gB (if cB = A.length + 1 then 0 else (A.length + 1) * 3) (cB - (A.length + 1)) _ C hlA2 hlC s2 (post _ ov4) (by omega) ov4.size
  have ov5 : Only [] W2 v5 := ov4.trans p3 (fun y hy => .inr (own_ge s2 y hy).1)
  rw [hfin] at f3 s3
  rw [hfinB] at s3
  obtain ⟨g1, hg1, D1, oD1⟩ := H2.blockSet ow5 hlB (by omega) r3 (by omega)
  obtain ⟨g2, hg2, D2, oD2⟩ := H2.blockSet ov5 hlB (by omega) s3 (by omega)
  have key := dsplit_walk (w := w) (r := r) (gB := gB) (i := A.length) (n := (A ++ b :: C).length) (s := b.size) (z := z) (t := b.at') (cB := cB) (W2 := W2) (by omega) (by omega) (by omega) (by omega) (by omega) hlt hcB hcm k0 kb.1 kb.2.1 kf hlt0.1 hlt0.2.1 (by rw [← hX]; exact hW2) k02
    (fun V o => by
      have := bx.only o (by simp)
      rw [hX] at this
      exact ⟨by simpa using this.cell 0, by simpa using this.cell 1, by simpa using this.cell 2⟩)
    (fun V o => ⟨o.keep0 k02, (o.frozen (p := ⟨r, 0, none⟩) (by show r < W2.heap.size; omega) (by simp)).trans fr2⟩)
    ⟨ow3, ow4, ow5⟩ ⟨ov3, ov4, ov5⟩ e1 (by rw [← hX]; exact e2) (by rw [if_addr]; exact e3) (by rw [← hX]; exact f1) f2 (by rw [if_addr]; exact f3)
  refine key.mono ?_
  rintro e w' ⟨rfl, rfl | rfl⟩
  · exact ⟨rfl, o2.trans oD1 (by simp), g1, by omega, by rw [← hx]; exact D1⟩
  · exact ⟨rfl, o2.trans oD2 (by simp), g2, by omega, by rw [← hx]; exact D2⟩
end
end Go.Proofs.YthlaoanfoimkfaaDoor
