/- Ready lists, the document's answer: the walk of Put. Condition: the rows lie. -/
import Derived.Test.YtlaeiknkabajkaaRd18
import Derived.BigRegion
namespace Go.Proofs.Ytlaeiknkabajkaa
open Go.RowKit Go.Shelf
set_option linter.unusedVariables false
set_option linter.all false
set_option maxRecDepth 20000
attribute [local go_sem ↓] app_hide

theorem NV_append (l r : List Nat) : NV (l ++ r) = NV l ++ NV r := by simp [NV]
theorem NV_one (l : List Nat) : ∀ u ∈ NV l, u.oneCell' = true := by
  intro u hu
  obtain ⟨t, _, rfl⟩ := List.mem_map.1 hu
  rfl
/-- append(s, r...) at a slice of one's own, r any threads. -/
theorem app_src (w : World) (B : Nat) (A0 : Option Addr) (c0 : Nat) (l : List Nat) (A : Option Addr) (c : Nat) (r : List Nat) (n0 n : Nat) (hn0 : l.length = n0) (hn1 : r.length = n) (hrow : w.ownsRow B 3 1 (.slice A0 n0 c0) n0 (NV l)) (hs : Nsrc w A r)
    (hn : l.length + r.length ≤ 100000) (hB : B ≤ w.heap.size) :
    ∃ (A1 : Option Addr) (c1 : Nat) (w2 : World), (AppH #[26, 26] 26 #[.slice A0 n0 c0, .slice A n c]).run Try.prog w = .ok (.slice A1 (n0 + n) c1) w2 ∧ w2.ownsRow B 3 1 (.slice A1 (n0 + n) c1) (n0 + n) (NV (l ++ r)) ∧ Only (blkOf A0) w w2 := by
  obtain ⟨i0, hi, hz0, hz1, hz2⟩ := info_parts int3_info
  have hcap := own_cap hrow
  subst hn0
  rcases A with _ | a
  · have h0 : r = [] := by
      rcases Nat.eq_zero_or_pos r.length with h0 | h0
      · exact List.eq_nil_of_length_eq_zero h0
      · obtain ⟨ad, he, _⟩ := hs h0
        cases he
    subst h0
    obtain rfl : n = 0 := by simpa using hn1.symm
    refine ⟨A0, c0, w, ?_, by simpa using hrow, Only.refl _ _⟩
    · unfold AppH Builtin.append_
      have h1 := hcap.1
      have h2 := hcap.2
      rcases A0 with _ | a0
      · rcases hrow.2 with ⟨hv, _⟩ | ⟨g, cap, cur, hv, _⟩
        · simp only [Value.slice.injEq, true_and] at hv
          obtain ⟨hv1, rfl⟩ := hv
          simp [Builtin.lenOf, Builtin.firstCells, hv1]
        · simp at hv
      · simp [Builtin.lenOf, Builtin.firstCells, h1, storeCells]
  · have hc : ∀ j u, (NV r)[j]? = some u → w.cell? (a.add j) = some u := by
      rcases Nat.eq_zero_or_pos r.length with h0 | h0
      · intro j u hj
        rw [List.eq_nil_of_length_eq_zero h0] at hj
        simp [NV] at hj
      · obtain ⟨g, he, hc⟩ := hs h0
        cases he
        intro j u hj
        simp only [NV, List.getElem?_map, Option.map_eq_some_iff] at hj
        obtain ⟨t, ht, rfl⟩ := hj
        rw [add_mk, Nat.zero_add]
        exact hc j t ht
    obtain ⟨v', w', hrun, h2, h3, h4, h5⟩ := run_append_own_at (P := Try.prog) w B 26 26 3 i0 (.int .i64 0) 1 8 Try.underlying26 hi hz0 hz1 hz2 rfl (by omega) (.slice A0 l.length c0) l.length (NV l) hrow a n c (NV r) (by rw [NV_len]; omega) hc (NV_one r) (by unfold maxLen; omega) (by omega) hB
    rw [← NV_append] at h2
    obtain ⟨A1, c1, rfl⟩ : ∃ A1 c1, v' = .slice A1 (l.length + n) c1 := by
      rcases h2.2 with ⟨hv, hn⟩ | ⟨g, cap, cur, hv, _⟩
      · rw [hn]
        exact ⟨none, 0, hv⟩
      · exact ⟨_, _, hv⟩
    refine ⟨A1, c1, w', hrun, h2, (Only.refl _ w).grown h3 (fun k hk => .inl ?_)⟩
    rcases A0 with _ | a0
    · simp [Value.ownBlock] at hk
    · simp only [Value.ownBlock, Option.some.injEq] at hk
      simp [blkOf, hk]
theorem own_new (W : World) (t : Nat) : (W.alloc (.cells #[.int .i64 (t : Int)] 3)).ownsRow W.heap.size 3 1 (.slice (some ⟨W.heap.size, 0, none⟩) 1 1) 1 (NV [t]) := by
  have := own_of_block (cur := [.int .i64 (t : Int)]) (n := 1) (cap := 1) (base := W.heap.size) (Blk.new W 3 #[.int .i64 (t : Int)]) rfl (by omega) (by unfold maxLen; omega) (Nat.le_refl _)
  simpa [NV] using this
/-- What the call leaves. -/
def PutD (w : World) (d : Nat) (q : Nat → List Nat) (c : Int) (e : Ending) (w' : World) : Prop := e = .returned (.int .i64 c) ∧ DQ w' d q ∧ Only [d] w w'
/-- One row anew. -/
theorem DQ.set_ {W W' : World} {d : Nat} {q : Nat → List Nat} (h : DQ W d q) (o : Only [] W W') {p : Nat} (hp : p < 32) {A : Option Addr} {c base : Nat} {l : List Nat} {n : Nat} (hn : l.length = n) (hr : W'.ownsRow base 3 1 (.slice A n c) n (NV l)) (hb : d < base) :
    DQ (W'.setCell ⟨d, p, none⟩ (.slice A n c)) d (setq q p l) ∧ Only [d] W (W'.setCell ⟨d, p, none⟩ (.slice A n c)) := by
  subst hn
  have h2 := h.only o (NoRow.nil _) (by simp)
  obtain ⟨cs, A0, c0, hB, hz, hR⟩ := h2
  have o2 : Only [d] W' (W'.setCell ⟨d, p, none⟩ (.slice A l.length c)) := (Only.refl [d] W').setCell (p := ⟨d, p, none⟩) (.inl (by simp)) _
  refine ⟨⟨cs.setIfInBounds p (.slice A l.length c), fun i => if i = p then A else A0 i, fun i => if i = p then c else c0 i, hB.set_ p _, by simpa using hz, fun i hi => ?_⟩, (wide_only o).trans' o2⟩
  by_cases e : i = p
  · subst e
    dsimp only
    rw [setq_same, if_pos rfl, if_pos rfl]
    refine ⟨set_eq (by omega), Row.only (Row.own hr) o2 (NoRow.one hB (by decide))⟩
  · dsimp only
    rw [setq_other _ _ e, if_neg e, if_neg e, set_ne (Ne.symm e)]
    exact ⟨(hR i hi).1, (hR i hi).2.only o2 (NoRow.one hB (by decide))⟩
set_option maxHeartbeats 1000000 in
theorem put_arg (d : Nat) (p t : Int) (hd : Bool) (w : World) (ha : ¬ argQ p t) : Calls Try.prog 19 #[ptr d, .int .i64 p, .int .i64 t, .bool hd] w fun e w' => e = .returned (.int .i64 2) ∧ w' = w := by
  unfold argQ at ha
  have HA := hide ha
  unfold ptr
  by_cases c1 : p < 1
  · have d1 : decide (p < 1) = true := decide_eq_true c1
    go_enter Try.func19, Try.ntmps19
    go_wp2_with fail
    go_ret
    exact ⟨rfl, rfl⟩
  have d1 : decide (p < 1) = false := decide_eq_false c1
  by_cases c2 : 31 < p
  · have d2 : decide (31 < p) = true := decide_eq_true c2
    clear ha
    go_enter Try.func19, Try.ntmps19
    go_wp2_with fail
    go_ret
    exact ⟨rfl, rfl⟩
  have d2 : decide (31 < p) = false := decide_eq_false c2
  by_cases c3 : t < 0
  · have d3 : decide (t < 0) = true := decide_eq_true c3
    clear ha
    go_enter Try.func19, Try.ntmps19
    go_wp2_with fail
    go_ret
    exact ⟨rfl, rfl⟩
  have d3 : decide (t < 0) = false := decide_eq_false c3
  have d4 : decide (16 ≤ t) = true := decide_eq_true (by omega)
  clear ha
  go_enter Try.func19, Try.ntmps19
  go_wp2_with fail
  go_ret
  exact ⟨rfl, rfl⟩
set_option maxHeartbeats 2000000 in
theorem put_good (d : Nat) (q : Nat → List Nat) (p t : Nat) (hd : Bool) (h1 : 1 ≤ p) (h2 : p ≤ 31) (ht : t < 16) (h0 : q 0 = []) (hl : ∀ p, (q p).length ≤ 16) (w : World) (h : DQ w d q) (hp : prioI q t = 0) :
    Calls Try.prog 19 #[ptr d, .int .i64 p, .int .i64 t, .bool hd] w fun e w' => PutD w d (setq q p (if hd then t :: q p else q p ++ [t])) 0 e w' := by
  have PR := rprio_any d q t h0 hl w h
  rw [hp] at PR
  have PR := hide PR
  have HD := hide h
  obtain ⟨cs, A, c, hb, hz, hr⟩ := h
  obtain ⟨hc, hrow⟩ := hr p (by omega)
  have k1 : w.cell? ⟨d, p, none⟩ = some (.slice (A p) (q p).length (c p)) := (hb.cell p).trans hc
  have f1 := hb.frozen p
  have hn16 := hl p
  have hdl := hb.lt
  have HS := hide hrow.nsrc
  obtain ⟨L, hL⟩ : ∃ L, q p = L := ⟨_, rfl⟩
  obtain ⟨A1, hA1⟩ : ∃ A1, A p = A1 := ⟨_, rfl⟩
  obtain ⟨c1, hc1⟩ : ∃ c1, c p = c1 := ⟨_, rfl⟩
  rw [hA1, hL, hc1] at k1
  rw [hL] at hn16
  rw [hA1, hL] at HS
  rw [hL]
  clear hb hz hr hc hrow hA1 hc1 hL h0 hl hp
  have d1 : decide ((p : Int) < 1) = false := by simp; omega
  have d2 : decide (31 < (p : Int)) = false := by simp; omega
  have d3 : decide ((t : Int) < 0) = false := by simp
  have d4 : decide (16 ≤ (t : Int)) = false := by simp; omega
  have i1 : (0 : Int) ≤ (p : Int) := by omega
  have i2 : (p : Int) < 32 := by omega
  unfold ptr at PR ⊢
  cases hd
  · go_enter Try.func19, Try.ntmps19
    go_wp2_with (go_at_call 29; refine PR.out.mono ?_; rintro e w' ⟨he, hw⟩; obtain rfl := hw.symm; clear hw; unfold prioE at he; rw [decide_eq_false (show ¬ ((((0 : Nat) : Int)) ≠ 0) by simp)] at he; subst he)
    obtain ⟨A2, c2, w2, e1, r1, o1⟩ := app_src w.drew w.heap.size none 0 [] A1 c1 L 0 L.length rfl rfl (World.ownsRow_nil ..) HS.out (by simp; omega) (Nat.le_refl _)
    rw [Nat.zero_add, List.nil_append] at r1
    rw [Nat.zero_add] at e1
    obtain ⟨A3, c3, w3, e2, r2, o2⟩ := app_src (w2.alloc (.cells #[.int .i64 (t : Int)] 3)) w.heap.size A2 c2 L (some ⟨w2.heap.size, 0, none⟩) 1 [t] L.length 1 rfl rfl (own_only' r1 ((Only.refl [] w2).alloc _) (by simp)) (Nsrc.own (own_new w2 t)) (by simp; omega) (by have : w.heap.size ≤ w2.heap.size := o1.size; simp; omega)
    obtain ⟨A4, c4, w4, e3, r3, o3⟩ := app_src (w.alloc (.cells #[.int .i64 (t : Int)] 3)).drew (w.heap.size + 1) none 0 [] A1 c1 L 0 L.length rfl rfl (World.ownsRow_nil ..) (HS.out.only0 ((Only.refl [] w).alloc _).drew) (by simp; omega) (by simp)
    rw [Nat.zero_add, List.nil_append] at r3
    rw [Nat.zero_add] at e3
    obtain ⟨A5, c5, w5, e4, r4, o4⟩ := app_src w4 (w.heap.size + 1) A4 c4 L (some ⟨w.heap.size, 0, none⟩) 1 [t] L.length 1 rfl rfl r3 (((Nsrc.own (own_new w t)).drewN 1).only0 (show Only [] (w.alloc (.cells #[.int .i64 (t : Int)] 3)).drew w4 from o3)) (by simp; omega) (by have : (w.alloc (.cells #[.int .i64 (t : Int)] 3)).heap.size ≤ w4.heap.size := o3.size; simpa using this)
    have oA : Only [] w w3 := (((Only.refl [] w).drew.trans0 o1).alloc (.cells #[.int .i64 (t : Int)] 3)).trans o2 (fun k hk => .inr (own_ge r1 k hk).1)
    have oB : Only [] w w5 := ((((Only.refl [] w).alloc (.cells #[.int .i64 (t : Int)] 3)).drew).trans0 o3).trans o4 (fun k hk => .inr (by have := (own_ge r3 k hk).1; omega))
    have m3 := oA.keep k1 (by simp)
    have n3 := (oA.frozen (p := ⟨d, p, none⟩) hdl (by simp)).trans f1
    have m5 := oB.keep k1 (by simp)
    have n5 := (oB.frozen (p := ⟨d, p, none⟩) hdl (by simp)).trans f1
    have R2 := hide r2
    have R4 := hide r4
    have OA := hide oA
    have OB := hide oB
    clear r1 r2 r3 r4 o1 o2 o3 o4 oA oB
    have G3 := hide (DQ.set_ HD.out OA.out (show p < 32 by omega) (by simp) R2.out hdl)
    have G5 := hide (DQ.set_ HD.out OB.out (show p < 32 by omega) (by simp) R4.out (by omega))
    go_region
    all_goals go_wp2_with fail
    all_goals go_ret
    all_goals unfold PutD
    all_goals first | exact ⟨rfl, G3.out⟩ | exact ⟨rfl, G5.out⟩
  · go_enter Try.func19, Try.ntmps19
    go_wp2_with (go_at_call 29; refine PR.out.mono ?_; rintro e w' ⟨he, hw⟩; obtain rfl := hw.symm; clear hw; unfold prioE at he; rw [decide_eq_false (show ¬ ((((0 : Nat) : Int)) ≠ 0) by simp)] at he; subst he)
    obtain ⟨A2, c2, w2, e1, r1, o1⟩ := app_src (w.alloc (.cells #[.int .i64 (t : Int)] 3)).drew w.heap.size (some ⟨w.heap.size, 0, none⟩) 1 [t] A1 c1 L 1 L.length rfl rfl (own_new w t) (HS.out.only0 ((Only.refl [] w).alloc _).drew) (by simp; omega) (by simp)
    have oA : Only [] w w2 := (((Only.refl [] w).alloc (.cells #[.int .i64 (t : Int)] 3)).drew).trans o1 (fun k hk => .inr (by simp [blkOf] at hk; omega))
    have m3 := oA.keep k1 (by simp)
    have n3 := (oA.frozen (p := ⟨d, p, none⟩) hdl (by simp)).trans f1
    have G3 := hide (DQ.set_ HD.out oA (show p < 32 by omega) (by simp; omega) r1 hdl)
    clear oA r1 o1
    go_region
    all_goals go_wp2_with fail
    all_goals go_ret
    all_goals unfold PutD
    all_goals exact ⟨rfl, G3.out⟩
set_option maxHeartbeats 1000000 in
theorem put_state (d : Nat) (q : Nat → List Nat) (p t : Nat) (hd : Bool) (h1 : 1 ≤ p) (h2 : p ≤ 31) (ht : t < 16) (h0 : q 0 = []) (hl : ∀ p, (q p).length ≤ 16) (w : World) (h : DQ w d q) (hp : prioI q t ≠ 0) :
    Calls Try.prog 19 #[ptr d, .int .i64 p, .int .i64 t, .bool hd] w fun e w' => e = .returned (.int .i64 7) ∧ w' = w := by
  have PR := rprio_any d q t h0 hl w h
  obtain ⟨m, hm⟩ : ∃ m, prioI q t = m := ⟨_, rfl⟩
  rw [hm] at PR hp
  have PR := hide PR
  have hmz : ((m : Nat) : Int) ≠ 0 := by omega
  have HMZ := hide hmz
  clear hmz hm h hp h0 hl
  have d1 : decide ((p : Int) < 1) = false := by simp; omega
  have d2 : decide (31 < (p : Int)) = false := by simp; omega
  have d3 : decide ((t : Int) < 0) = false := by simp
  have d4 : decide (16 ≤ (t : Int)) = false := by simp; omega
  unfold ptr at PR ⊢
  go_enter Try.func19, Try.ntmps19
  go_wp2_with (go_at_call 29; refine PR.out.mono ?_; rintro e w' ⟨he, hw⟩; obtain rfl := hw.symm; clear hw; unfold prioE at he; rw [decide_eq_true HMZ.out] at he; subst he)
  go_ret
  exact ⟨rfl, rfl⟩
theorem rput_spec (d : Nat) (q : Nat → List Nat) (p t : Int) (hd : Bool) (h0 : q 0 = []) (hl : ∀ p, (q p).length ≤ 16) (w : World) (h : DQ w d q) :
    Calls Try.prog 19 #[ptr d, .int .i64 p, .int .i64 t, .bool hd] w fun e w' => e = .returned (.int .i64 (putC q p t)) ∧ DQ w' d (if hd then putHQ q p t else putTQ q p t) ∧ Only [d] w w' := by
  have hkeep : ∀ c : Int, putC q p t = c → c ≠ 0 → (if hd then putHQ q p t else putTQ q p t) = q := fun c hc hz => by
    cases hd <;> simp [putHQ, putTQ, hc, hz]
  by_cases ha : argQ p t
  · obtain ⟨t1, t2, p1, p2⟩ := ha
    obtain ⟨P, rfl⟩ : ∃ m : Nat, p = m := ⟨p.toNat, by omega⟩
    obtain ⟨T, rfl⟩ : ∃ m : Nat, t = m := ⟨t.toNat, by omega⟩
    have hc0 : argQ (P : Int) (T : Int) := ⟨t1, t2, p1, p2⟩
    have hpi : prioI q (T : Int) = prioQ q T := by unfold prioI; rw [if_pos (by omega), Int.toNat_natCast]
    by_cases hz : prioQ q T = 0
    · have hc : putC q P T = 0 := by unfold putC; rw [if_neg (by simpa using hc0), if_neg (by simpa using hz)]
      refine (put_good d q P T hd (by omega) (by omega) (by omega) h0 hl w h (by rw [hpi, hz])).mono ?_
      rintro e w' ⟨he, hD, o⟩
      refine ⟨by rw [he, hc], ?_, o⟩
      have : (if hd then putHQ q P T else putTQ q P T) = setq q P (if hd then T :: q P else q P ++ [T]) := by
        cases hd <;> simp [putHQ, putTQ, hc]
      rw [this]
      exact hD
    · have hc : putC q P T = 7 := by unfold putC; rw [if_neg (by simpa using hc0), if_pos (by simpa using hz)]
      refine (put_state d q P T hd (by omega) (by omega) (by omega) h0 hl w h (by rw [hpi]; exact hz)).mono ?_
      rintro e w' ⟨rfl, hw⟩
      obtain rfl := hw.symm
      rw [hkeep 7 hc (by decide)]
      exact ⟨by rw [hc], h, Only.refl _ _⟩
  · have hc : putC q p t = 2 := by unfold putC; rw [if_pos ha]
    refine (put_arg d p t hd w ha).mono ?_
    rintro e w' ⟨rfl, hw⟩
    obtain rfl := hw.symm
    rw [hkeep 2 hc (by decide)]
    exact ⟨by rw [hc], h, Only.refl _ _⟩
end Go.Proofs.Ytlaeiknkabajkaa
