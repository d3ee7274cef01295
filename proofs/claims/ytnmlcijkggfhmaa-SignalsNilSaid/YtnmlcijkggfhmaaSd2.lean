/- Signals, the document's answer: lists that are appended to; the walks of New, Mask, SetMask, Send. Condition: it lies. -/
import Derived.Test.YtnmlcijkggfhmaaSd1
namespace Go.Proofs.Ytnmlcijkggfhmaa
open Go.RowKit
set_option linter.unusedVariables false
set_option linter.all false
set_option maxRecDepth 20000
attribute [local go_sem ↓] app_hide

/-- A list's cells. -/
def SV : List Snt → List Value
  | [] => []
  | x :: L => .int .i64 x.t :: .int .i64 x.n :: .int .i64 x.v :: SV L
theorem SV_len : ∀ L : List Snt, (SV L).length = L.length * 3
  | [] => rfl
  | x :: L => by simp only [SV, List.length_cons, SV_len L]; omega
theorem SV_append : ∀ L R : List Snt, SV (L ++ R) = SV L ++ SV R
  | [], R => rfl
  | x :: L, R => by simp [SV, SV_append L R]
theorem SV_one : ∀ (L : List Snt), ∀ u ∈ SV L, u.oneCell' = true
  | [], u, h => by simp [SV] at h
  | x :: L, u, h => by
    simp only [SV, List.mem_cons] at h
    rcases h with rfl | rfl | rfl | h
    · rfl
    · rfl
    · rfl
    · exact SV_one L u h
theorem SV_get : ∀ (L : List Snt) (j : Nat) (x : Snt), L[j]? = some x → (SV L)[j * 3]? = some (.int .i64 x.t) ∧ (SV L)[j * 3 + 1]? = some (.int .i64 x.n) ∧ (SV L)[j * 3 + 2]? = some (.int .i64 x.v)
  | [], j, x, h => by simp at h
  | y :: L, 0, x, h => by simp at h; subst h; simp [SV]
  | y :: L, j + 1, x, h => by
    have := SV_get L j x (by simpa using h)
    rw [show (j + 1) * 3 = j * 3 + 1 + 1 + 1 by omega]
    simpa [SV] using this
theorem SV_drop : ∀ (L : List Snt) (i : Nat), SV (L.drop i) = (SV L).drop (i * 3)
  | [], i => by simp [SV]
  | x :: L, 0 => by simp
  | x :: L, i + 1 => by
    rw [List.drop_succ_cons, SV_drop L i, show (i + 1) * 3 = i * 3 + 1 + 1 + 1 by omega]
    simp [SV]
theorem SV_take : ∀ (L : List Snt) (i : Nat), SV (L.take i) = (SV L).take (i * 3)
  | [], i => by simp [SV]
  | x :: L, 0 => by simp [SV]
  | x :: L, i + 1 => by
    rw [List.take_succ_cons, show (i + 1) * 3 = i * 3 + 1 + 1 + 1 by omega]
    simp [SV, SV_take L i]
def SrcS (w : World) (A : Option Addr) (L : List Snt) : Prop := 0 < L.length → ∃ ad, A = some ad ∧ ∀ j u, (SV L)[j]? = some u → w.cell? (ad.add j) = some u
theorem SrcS.only {w w' : World} {A : Option Addr} {L : List Snt} (h : SrcS w A L) (o : Only [] w w') : SrcS w' A L := fun hp => by
  obtain ⟨ad, e, hc⟩ := h hp
  exact ⟨ad, e, fun j u hj => o.keep0 (hc j u hj)⟩
theorem RowS.cells {w : World} {r : Nat} {cs : Array Value} {L : List Snt} (hb : Blk w r 84 cs) (hc : ∀ (j : Nat) (x : Snt), L[j]? = some x → cs[j * 3]? = some (.int .i64 x.t) ∧ cs[j * 3 + 1]? = some (.int .i64 x.n) ∧ cs[j * 3 + 2]? = some (.int .i64 x.v)) :
    ∀ j u, (SV L)[j]? = some u → w.cell? ⟨r, j, none⟩ = some u := by
  intro j u hj
  have hjl := (List.getElem?_eq_some_iff.1 hj).1
  rw [SV_len] at hjl
  obtain ⟨x, hx⟩ : ∃ x, L[j / 3]? = some x := ⟨_, List.getElem?_eq_getElem (by omega)⟩
  obtain ⟨a1, a2, a3⟩ := hc _ x hx
  obtain ⟨b1, b2, b3⟩ := SV_get L _ x hx
  rw [hb.cell]
  have : j = j / 3 * 3 ∨ j = j / 3 * 3 + 1 ∨ j = j / 3 * 3 + 2 := by omega
  rcases this with e | e | e <;> rw [e] at hj ⊢
  · rw [b1] at hj; rw [a1, hj]
  · rw [b2] at hj; rw [a2, hj]
  · rw [b3] at hj; rw [a3, hj]
theorem RowS.src {w : World} {A : Option Addr} {L : List Snt} (h : RowS w A L) : SrcS w A L := fun hp => by
  obtain ⟨r, cs, e, hb, hc⟩ := h hp
  exact ⟨_, e, fun j u hj => by rw [add_mk, Nat.zero_add]; exact RowS.cells hb hc j u hj⟩
theorem RowS.own {w : World} {base c n : Nat} {A : Option Addr} {L : List Snt} (hn : L.length = n) (h : w.ownsRow base 84 3 (.slice A n c) n (SV L)) : RowS w A L := fun hl => by
  rcases h.2 with ⟨hv, hn⟩ | ⟨g, cap, cur, hv, _, hg, r⟩
  · omega
  · simp only [Value.slice.injEq] at hv
    obtain ⟨rfl, _, _⟩ := hv
    have hc : ∀ j, j < n * 3 → cur[j]? = (SV L)[j]? := fun j hj => by
      have h1 := h.cellAt j hj
      rw [Blk.cell hg j] at h1
      exact h1
    refine ⟨g, cur, rfl, hg, fun j x hj => ?_⟩
    have hjl := (List.getElem?_eq_some_iff.1 hj).1
    obtain ⟨a1, a2, a3⟩ := SV_get L j x hj
    exact ⟨(hc _ (by omega)).trans a1, (hc _ (by omega)).trans a2, (hc _ (by omega)).trans a3⟩
theorem info84 : (Try.prog.info? 84).map (fun i => (i.zero, i.size, i.bytes)) = some (some (.agg #[.int .i64 0, .int .i64 0, .int .i64 0]), 3, 24) := by kernel_rfl
/-- append(s, r...) at a list of one's own. -/
theorem app_snt (w : World) (B : Nat) (A0 : Option Addr) (c0 : Nat) (l : List Snt) (A : Option Addr) (c : Nat) (r : List Snt) (n0 n : Nat) (hn0 : l.length = n0) (hn1 : r.length = n) (hrow : w.ownsRow B 84 3 (.slice A0 n0 c0) n0 (SV l)) (hs : SrcS w A r)
    (hn : l.length + r.length ≤ 100000) (hB : B ≤ w.heap.size) :
    ∃ (A1 : Option Addr) (c1 : Nat) (w2 : World), (AppH #[66, 66] 66 #[.slice A0 n0 c0, .slice A n c]).run Try.prog w = .ok (.slice A1 (n0 + n) c1) w2 ∧ w2.ownsRow B 84 3 (.slice A1 (n0 + n) c1) (n0 + n) (SV (l ++ r)) ∧ Only (blkOf A0) w w2 := by
  obtain ⟨i0, hi, hz0, hz1, hz2⟩ := info_parts info84
  have hcap := own_cap hrow
  subst hn0
  rcases A with _ | a
  · have h0 : r = [] := by
      rcases Nat.eq_zero_or_pos r.length with h0 | h0
      · exact List.eq_nil_of_length_eq_zero h0
      · obtain ⟨ad, he, _⟩ := hs h0
        cases he
    subst h0
    obtain rfl : n = 0 := by simpa using hn1.symm
    refine ⟨A0, c0, w, ?_, by simpa using hrow, Only.refl _ _⟩
    · unfold AppH Builtin.append_
      have h1 := hcap.1
      have h2 := hcap.2
      rcases A0 with _ | a0
      · rcases hrow.2 with ⟨hv, _⟩ | ⟨g, cap, cur, hv, _⟩
        · simp only [Value.slice.injEq, true_and] at hv
          obtain ⟨hv1, rfl⟩ := hv
          simp [Builtin.lenOf, Builtin.firstCells, hv1]
        · simp at hv
      · simp [Builtin.lenOf, Builtin.firstCells, h1, storeCells]
  · have hc : ∀ j u, (SV r)[j]? = some u → w.cell? (a.add j) = some u := by
      rcases Nat.eq_zero_or_pos r.length with h0 | h0
      · intro j u hj
        rw [List.eq_nil_of_length_eq_zero h0] at hj
        simp [SV] at hj
      · obtain ⟨ad, he, hc⟩ := hs h0
        cases he
        exact hc
    obtain ⟨v', w', hrun, h2, h3, h4, h5⟩ := run_append_own_at (P := Try.prog) w B 66 66 84 i0 (.agg #[.int .i64 0, .int .i64 0, .int .i64 0]) 3 24 Try.underlying66 hi hz0 hz1 hz2 rfl (by omega) (.slice A0 l.length c0) l.length (SV l) hrow a n c (SV r) (by rw [SV_len]; omega) hc (SV_one r) (by unfold maxLen; omega) (by omega) hB
    rw [← SV_append] at h2
    obtain ⟨A1, c1, rfl⟩ : ∃ A1 c1, v' = .slice A1 (l.length + n) c1 := by
      rcases h2.2 with ⟨hv, hn⟩ | ⟨g, cap, cur, hv, _⟩
      · rw [hn]
        exact ⟨none, 0, hv⟩
      · exact ⟨_, _, hv⟩
    refine ⟨A1, c1, w', hrun, h2, (Only.refl _ w).grown h3 (fun k hk => .inl ?_)⟩
    rcases A0 with _ | a0
    · simp [Value.ownBlock] at hk
    · simp only [Value.ownBlock, Option.some.injEq] at hk
      simp [blkOf, hk]
theorem one_src (W : World) (x : Snt) : SrcS (W.alloc (.cells #[.int .i64 x.t, .int .i64 x.n, .int .i64 x.v] 84)) (some ⟨W.heap.size, 0, none⟩) [x] := fun _ => ⟨_, rfl, fun j u hj => by
  rw [add_mk, Nat.zero_add, (Blk.new W 84 #[.int .i64 x.t, .int .i64 x.n, .int .i64 x.v]).cell j, ← hj]
  show ([.int .i64 x.t, .int .i64 x.n, .int .i64 x.v] : List Value).toArray[j]? = _
  rw [List.getElem?_toArray]
  rfl⟩
/-! ## New, Mask, SetMask -/
def Z68 : Array Value := #[.int .i64 0, .int .i64 0] ++ Array.replicate 16 (.int .u32 0) ++ #[.slice none 0 0]
theorem info68 : (Try.prog.info? 68).map (fun i => (i.zero, i.size)) = some (some (.agg Z68), 19) := by kernel_rfl
theorem zero68 (W : World) : (zeroValue 68).run Try.prog W = .ok (.agg Z68) W := (zero_of_info info68).1 W
theorem DC_new (T S : Nat) : DC ((Z68.setIfInBounds 0 (.int .i64 T)).setIfInBounds 1 (.int .i64 S)) T S (fun _ => 0) none 0 0 := by
  have hz : Z68.size = 19 := by decide +kernel
  refine ⟨by simp [hz], (set_ne (by omega)).trans (set_eq (by omega)), set_eq (by simp [hz]), fun i hi => (set_ne (by omega)).trans ((set_ne (by omega)).trans ?_), (set_ne (by omega)).trans ((set_ne (by omega)).trans rfl), Nat.le_refl _⟩
  unfold Z68
  rw [Array.getElem?_append_left (by simp; omega), Array.getElem?_append_right (by simp)]
  simp [hi]
theorem rnew_bad (T S : Int) (hT : ¬ okSize T S) (w : World) : Calls Try.prog 14 #[.int .i64 T, .int .i64 S] w fun e w' => e = .returned (.pointer none) ∧ w' = w := by
  unfold okSize at hT
  by_cases c1 : T < 1
  · have d1 : decide (T < 1) = true := decide_eq_true c1
    clear hT
    go_enter Try.func14, Try.ntmps14
    go_wp2_with fail
    go_ret
    exact ⟨rfl, rfl⟩
  have d1 : decide (T < 1) = false := decide_eq_false c1
  by_cases c2 : 16 < T
  · have d2 : decide (16 < T) = true := decide_eq_true c2
    clear hT
    go_enter Try.func14, Try.ntmps14
    go_wp2_with fail
    go_ret
    exact ⟨rfl, rfl⟩
  have d2 : decide (16 < T) = false := decide_eq_false c2
  by_cases c3 : S < 1
  · have d3 : decide (S < 1) = true := decide_eq_true c3
    clear hT
    go_enter Try.func14, Try.ntmps14
    go_wp2_with fail
    go_ret
    exact ⟨rfl, rfl⟩
  have d3 : decide (S < 1) = false := decide_eq_false c3
  have d4 : decide (32 < S) = true := decide_eq_true (by omega)
  clear hT
  go_enter Try.func14, Try.ntmps14
  go_wp2_with fail
  go_ret
  exact ⟨rfl, rfl⟩
theorem rnew_good (T S : Nat) (h1 : 1 ≤ T) (h2 : T ≤ 16) (h3 : 1 ≤ S) (h4 : S ≤ 32) (w : World) : Calls Try.prog 14 #[.int .i64 T, .int .i64 S] w fun e w' => e = .returned (ptr w.heap.size) ∧ DS w' w.heap.size T S [] (fun _ => 0) ∧ Only [] w w' := by
  have d1 : decide ((T : Int) < 1) = false := decide_eq_false (by omega)
  have d2 : decide (16 < (T : Int)) = false := decide_eq_false (by omega)
  have d3 : decide ((S : Int) < 1) = false := decide_eq_false (by omega)
  have d4 : decide (32 < (S : Int)) = false := decide_eq_false (by omega)
  have hZ := zero68
  go_enter Try.func14, Try.ntmps14
  go_wp2_with fail
  go_ret
  exact ⟨rfl, ⟨⟨_, none, 0, Blk.new w 68 _, DC_new T S, fun hp => by simp at hp⟩, SInv.nil T S, by simp, h1, h2, h4, fun _ _ => by decide⟩, (Only.refl [] w).alloc _⟩
section
variable {w : World} {d T S : Nat} {L : List Snt} {M : Nat → Nat}
theorem rmask_any (h : DS w d T S L M) (t : Int) : Calls Try.prog 34 #[ptr d, .int .i64 t] w fun e w' => e = .returned (.int .u32 (maskI M T t : Nat)) ∧ w' = w := by
  have IN := in_ds h t
  unfold maskI
  obtain ⟨A, c, _, _, _, km, _⟩ := h.at
  have ht1 := h.t1
  by_cases ct : inT T t
  · rw [decide_eq_true ct] at IN
    rw [if_pos ct]
    have IN := hide IN
    obtain ⟨k, rfl⟩ : ∃ k : Nat, t = k := ⟨t.toNat, by have := ct.1; omega⟩
    rw [Int.toNat_natCast]
    have c2 := ct.2
    have k1 := km k (by omega)
    have i0 : (0 : Int) ≤ (k : Int) := by omega
    have i1 : (k : Int) < 16 := by omega
    clear km ct h
    unfold ptr at IN ⊢
    go_enter Try.func34, Try.ntmps34
    go_wp2_with (go_at_call 41; refine IN.out.mono ?_; rintro e w' ⟨rfl, hw⟩; obtain rfl := hw.symm; clear hw)
    go_ret
    exact ⟨rfl, rfl⟩
  · rw [decide_eq_false ct] at IN
    rw [if_neg ct]
    have IN := hide IN
    clear km ct h
    unfold ptr at IN ⊢
    go_enter Try.func34, Try.ntmps34
    go_wp2_with (go_at_call 41; refine IN.out.mono ?_; rintro e w' ⟨rfl, hw⟩; obtain rfl := hw.symm; clear hw)
    go_ret
    exact ⟨rfl, rfl⟩
theorem DC.setMask {cs : Array Value} {A : Option Addr} {n c : Nat} (h : DC cs T S M A n c) {k v : Nat} (hk : k < 16) : DC (cs.setIfInBounds (2 + k) (.int .u32 (v : Nat))) T S (setM M k v) A n c := by
  have hz := h.size
  refine ⟨by simp [hz], (set_ne (by omega)).trans h.t, (set_ne (by omega)).trans h.s, fun i hi => ?_, (set_ne (by omega)).trans h.l, h.cap⟩
  unfold setM
  by_cases e : i = k
  · subst e
    rw [if_pos rfl]
    exact set_eq (by omega)
  · rw [if_neg e]
    exact (set_ne (by omega)).trans (h.m i hi)
theorem DS.setMask (h : DS w d T S L M) {k v : Nat} (hk : k < 16) (hv : v < 4294967296) : DS (w.setCell ⟨d, 2 + k, none⟩ (.int .u32 (v : Nat))) d T S L (setM M k v) := by
  obtain ⟨cs, A, c, hb, hC, hr⟩ := h.cells
  have o : Only [d] w (w.setCell ⟨d, 2 + k, none⟩ (.int .u32 (v : Nat))) := (Only.refl [d] w).setCell (p := ⟨d, 2 + k, none⟩) (.inl (by simp)) _
  exact ⟨⟨_, A, c, hb.set_ _ _, hC.setMask hk, hr.only o (NoS.one hb (by decide))⟩, h.inv, h.len, h.t0, h.t1, h.s1, fun i hi => by unfold setM; split; (exact hv); (exact h.mlt i hi)⟩
theorem rsetmask_any (h : DS w d T S L M) (t : Int) (v : Nat) (hv : v < 4294967296) : Calls Try.prog 28 #[ptr d, .int .i64 t, .int .u32 v] w fun e w' => e = .returned (.tuple #[.int .u32 (maskI M T t : Nat), .int .i64 (askC T t)]) ∧ DS w' d T S L (setMI M T t v) ∧ Only [d] w w' := by
  have IN := in_ds h t
  unfold maskI setMI
  by_cases c : inT T t
  · rw [askC_in c]
    rw [decide_eq_true c] at IN
    have IN := hide IN
    rw [if_pos c, if_pos c]
    obtain ⟨cs, A, cc, hb, hC, hr⟩ := h.cells
    have ht1 := h.t1
    obtain ⟨k, rfl⟩ : ∃ k : Nat, t = k := ⟨t.toNat, by have := c.1; omega⟩
    have c2 := c.2
    rw [Int.toNat_natCast]
    have k1 := (hb.cell (2 + k)).trans (hC.m k (by omega))
    have f1 := hb.frozen (2 + k)
    have HG := hide (h.setMask (k := k) (by omega) (evenM_lt hv))
    obtain ⟨p, hp⟩ : ∃ p, M k = p := ⟨_, rfl⟩
    rw [hp] at k1 ⊢
    have i0 : (0 : Int) ≤ (k : Int) := by omega
    have i1 : (k : Int) < 16 := by omega
    have i2 : (0 : Int) ≤ (v : Int) := by omega
    have i3 : (v : Int) < 4294967296 := by omega
    obtain ⟨v2, hv2⟩ : ∃ v2, evenM v = v2 := ⟨_, rfl⟩
    have z1 : (v : Int) - (v : Int) % 2 = (v2 : Int) := by rw [← hv2]; unfold evenM; omega
    rw [hv2] at HG ⊢
    clear hb hC h c hp hv2 hr
    unfold ptr at IN ⊢
    go_enter Try.func28, Try.ntmps28
    go_wp2_with (go_at_call 41; refine IN.out.mono ?_; rintro e w' ⟨rfl, hw⟩; obtain rfl := hw.symm; clear hw)
    exact bodyPost_ret (v := .tuple #[.int .u32 p, .int .i64 0]) (by simp [results, Try.results28, go_sem]) rfl ⟨rfl, HG.out, (Only.refl [d] w).setCell (p := ⟨d, 2 + k, none⟩) (.inl (by simp)) _⟩
  · rw [askC_out c]
    rw [decide_eq_false c] at IN
    have IN := hide IN
    rw [if_neg c, if_neg c]
    have H := hide h
    clear h c
    unfold ptr at IN ⊢
    go_enter Try.func28, Try.ntmps28
    go_wp2_with (go_at_call 41; refine IN.out.mono ?_; rintro e w' ⟨rfl, hw⟩; obtain rfl := hw.symm; clear hw)
    exact bodyPost_ret (v := .tuple #[.int .u32 0, .int .i64 2]) (by simp [results, Try.results28, go_sem]) rfl ⟨rfl, H.out, Only.refl _ _⟩
end
end Go.Proofs.Ytnmlcijkggfhmaa
