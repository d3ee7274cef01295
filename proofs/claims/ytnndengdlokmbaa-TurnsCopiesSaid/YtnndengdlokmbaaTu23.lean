/- Turns, the document's answer: the walk of goes. Condition: the document's turns lie. -/
import Derived.Test.YtnndengdlokmbaaTu22
namespace Go.Proofs.Ytnndengdlokmbaa
open Go.RowKit Go.Shelf
set_option linter.unusedVariables false
set_option linter.all false
set_option maxRecDepth 20000
attribute [local go_sem ↓] app_hide

/-- The sequences behind goes. -/
def goQ (q : Nat → List Nat) (P t p : Nat) (hd : Bool) : Nat → List Nat := setq (setq q P (wo t (q P))) p (if hd then t :: setq q P (wo t (q P)) p else setq q P (wo t (q P)) p ++ [t])
set_option maxHeartbeats 4000000 in
theorem goes_head (d : Nat) (Q : Int) (q : Nat → List Nat) (pr : Nat → Int) (rob : Nat → Bool) (lf : Nat → Int) (t P p : Nat) (ht : t < 16) (hP : P < 32) (hp : p < 32) (hpr : pr t = P) (hl : ∀ j, (q j).length ≤ 1000) (w : World) (h : DR w d Q q pr rob lf) :
    Calls Try.prog 65 #[.pointer (some ⟨d, 0, none⟩), .int .i64 t, .int .i64 p, .bool true] w fun e w' => e = .returned (.tuple #[]) ∧ DR w' d Q (goQ q P t p true) (upd pr t p) rob lf ∧ Only [d] w w' := by
  have TK := hide (take_good d Q q pr rob lf t P ht hP hpr (hl P) w h)
  unfold goQ
  have hq1 : ∀ j, (setq q P (wo t (q P)) j).length ≤ 1000 := fun j => by
    unfold setq
    split
    · exact Nat.le_trans (wo_le _ _) (hl P)
    · exact hl j
  obtain ⟨q1, hq⟩ : ∃ q1, setq q P (wo t (q P)) = q1 := ⟨_, rfl⟩
  rw [hq] at TK hq1 ⊢
  rw [if_pos rfl]
  have HL := hide hq1
  have i1 : (0 : Int) ≤ (t : Int) := by omega
  have i2 : (t : Int) < 16 := by omega
  have i3 : (0 : Int) ≤ (p : Int) := by omega
  have i4 : (p : Int) < 32 := by omega
  clear h hl hq1 hq hpr
  go_enter Try.func65, Try.ntmps65
  go_wp2_with (
    (go_at_call 66
     refine TK.out.mono ?_
     rintro e w2 ⟨rfl, D2, o2⟩
     have k33 := D2.cP ht
     have f33 := D2.fz (33 + t)
     have D3 := D2.setP ht p
     have hsz : (w2.setCell ⟨d, 33 + t, none⟩ (.int .i64 (p : Int))).heap.size = w2.heap.size := by simp
     obtain ⟨L, hL⟩ : ∃ L, q1 p = L := ⟨_, rfl⟩
     obtain ⟨n, hn⟩ : ∃ n, L.length = n := ⟨_, rfl⟩
     have hn1 : n ≤ 1000 := by have := HL.out p; rw [hL, hn] at this; exact this
     obtain ⟨g', cap', w4, e1, r1, o1, hg⟩ := app_one (w2.setCell ⟨d, 33 + t, none⟩ (.int .i64 (p : Int))) w2.heap.size none 0 [] t (World.ownsRow_nil ..) (by simp) (by rw [hsz]; exact Nat.le_refl _)
     rw [hsz] at e1 hg
     simp only [List.length_nil, Nat.zero_add, List.nil_append, List.length_cons, blkOf, List.not_mem_nil, false_or] at e1 r1 o1 hg
     have D4 := D3.only0 o1
     obtain ⟨A, c, ks, hrow⟩ := D4.cS hp
     rw [hL] at ks hrow
     rw [hn] at ks
     obtain ⟨A5, c5, w5, e5, r5, o5⟩ := app_src w4 w2.heap.size (some ⟨g', 0, none⟩) cap' [t] A c L 1 n rfl hn r1 hrow.nsrc (by simp; omega) (by have := o1.size; rw [hsz] at this; exact this)
     have o35 : Only [] _ w5 := o1.trans o5 (fun k hk => .inr (by simp [blkOf] at hk; subst hk; rw [hsz]; exact hg))
     have D5 := D3.only0 o35
     have HD := hide (D5.setS hp (l := t :: L) (n := 1 + n) (c1 := c5) (by simp [hn]; omega) (Row.own' (by simp [hn]; omega) r5))
     obtain ⟨A6, c6, k6, -⟩ := D5.cS hp
     have f6 := D5.fz (1 + p)
     have HO := hide ((((o2.setCell (p := ⟨d, 33 + t, none⟩) (.inl (by simp)) (.int .i64 (p : Int))).trans0 o35).setCell (p := ⟨d, 1 + p, none⟩) (.inl (by simp)) (.slice A5 (1 + n) c5)))
     have HL2 := hide hL
     clear D2 D3 D4 D5 o1 o2 o5 o35 r1 r5 hg hrow hn hL))
  go_end0
  exact ⟨rfl, by rw [HL2.out]; exact HD.out, HO.out⟩
set_option maxHeartbeats 4000000 in
theorem goes_tail (d : Nat) (Q : Int) (q : Nat → List Nat) (pr : Nat → Int) (rob : Nat → Bool) (lf : Nat → Int) (t P p : Nat) (ht : t < 16) (hP : P < 32) (hp : p < 32) (hpr : pr t = P) (hl : ∀ j, (q j).length ≤ 1000) (w : World) (h : DR w d Q q pr rob lf) :
    Calls Try.prog 65 #[.pointer (some ⟨d, 0, none⟩), .int .i64 t, .int .i64 p, .bool false] w fun e w' => e = .returned (.tuple #[]) ∧ DR w' d Q (goQ q P t p false) (upd pr t p) rob lf ∧ Only [d] w w' := by
  have TK := hide (take_good d Q q pr rob lf t P ht hP hpr (hl P) w h)
  unfold goQ
  have hq1 : ∀ j, (setq q P (wo t (q P)) j).length ≤ 1000 := fun j => by
    unfold setq
    split
    · exact Nat.le_trans (wo_le _ _) (hl P)
    · exact hl j
  obtain ⟨q1, hq⟩ : ∃ q1, setq q P (wo t (q P)) = q1 := ⟨_, rfl⟩
  rw [hq] at TK hq1 ⊢
  rw [if_neg (by simp)]
  have HL := hide hq1
  have i1 : (0 : Int) ≤ (t : Int) := by omega
  have i2 : (t : Int) < 16 := by omega
  have i3 : (0 : Int) ≤ (p : Int) := by omega
  have i4 : (p : Int) < 32 := by omega
  clear h hl hq1 hq hpr
  go_enter Try.func65, Try.ntmps65
  go_wp2_with (
    (go_at_call 66
     refine TK.out.mono ?_
     rintro e w2 ⟨rfl, D2, o2⟩
     have k33 := D2.cP ht
     have f33 := D2.fz (33 + t)
     have D3 := D2.setP ht p
     have hsz : (w2.setCell ⟨d, 33 + t, none⟩ (.int .i64 (p : Int))).heap.size = w2.heap.size := by simp
     obtain ⟨L, hL⟩ : ∃ L, q1 p = L := ⟨_, rfl⟩
     obtain ⟨n, hn⟩ : ∃ n, L.length = n := ⟨_, rfl⟩
     have hn1 : n ≤ 1000 := by have := HL.out p; rw [hL, hn] at this; exact this
     obtain ⟨A, c, ks, hrow⟩ := D2.cS hp
     rw [hL] at ks hrow
     rw [hn] at ks
     have o23 : Only [d] w2 (w2.setCell ⟨d, 33 + t, none⟩ (.int .i64 (p : Int))) := (Only.refl [d] w2).setCell (p := ⟨d, 33 + t, none⟩) (.inl (by simp)) _
     obtain ⟨A4, c4, w4, e4, r4, o4⟩ := app_src (w2.setCell ⟨d, 33 + t, none⟩ (.int .i64 (p : Int))) w2.heap.size none 0 [] A c L 0 n rfl hn (World.ownsRow_nil ..) (hrow.only o23 D2.noRow).nsrc (by simp; omega) (by rw [hsz]; exact Nat.le_refl _)
     simp only [Nat.zero_add, List.nil_append, blkOf] at e4 r4 o4
     have hs4 := o4.size
     rw [hsz] at hs4
     subst hn
     obtain ⟨g', cap', w5, e5, r5, o5, hg⟩ := app_one w4 w2.heap.size A4 c4 L t r4 (by omega) hs4
     obtain ⟨n, hn⟩ : ∃ n, L.length = n := ⟨_, rfl⟩
     rw [hn] at e4 e5 ks hn1
     have o35 : Only [] _ w5 := o4.trans o5 (fun k hk => .inr (by rw [hsz]; exact (own_ge r4 k hk).1))
     have D5 := D3.only0 o35
     have HD := hide (D5.setS hp (l := L ++ [t]) (n := n + 1) (c1 := cap') (by simp [hn]) (Row.own r5))
     obtain ⟨A6, c6, k6, -⟩ := D5.cS hp
     have f6 := D5.fz (1 + p)
     have HO := hide ((((o2.setCell (p := ⟨d, 33 + t, none⟩) (.inl (by simp)) (.int .i64 (p : Int))).trans0 o35).setCell (p := ⟨d, 1 + p, none⟩) (.inl (by simp)) (.slice (some ⟨g', 0, none⟩) (n + 1) cap')))
     have HL2 := hide hL
     clear D2 D3 D5 o2 o4 o5 o23 o35 r4 r5 hg hrow hn hL hs4))
  go_end0
  exact ⟨rfl, by rw [HL2.out]; exact HD.out, HO.out⟩
theorem goes_good (d : Nat) (Q : Int) (q : Nat → List Nat) (pr : Nat → Int) (rob : Nat → Bool) (lf : Nat → Int) (t P p : Nat) (ht : t < 16) (hP : P < 32) (hp : p < 32) (hpr : pr t = P) (hl : ∀ j, (q j).length ≤ 1000) (hd : Bool) (w : World) (h : DR w d Q q pr rob lf) :
    Calls Try.prog 65 #[.pointer (some ⟨d, 0, none⟩), .int .i64 t, .int .i64 p, .bool hd] w fun e w' => e = .returned (.tuple #[]) ∧ DR w' d Q (goQ q P t p hd) (upd pr t p) rob lf ∧ Only [d] w w' := by
  cases hd
  · exact goes_tail d Q q pr rob lf t P p ht hP hp hpr hl w h
  · exact goes_head d Q q pr rob lf t P p ht hP hp hpr hl w h
end Go.Proofs.Ytnndengdlokmbaa
