/- Walks over sporadic: slices.DeleteFunc at pieces, Due, Pieces. -/
import Derived.Test.YtidllhnldhnoeaaSv3
namespace Go.Proofs.Ytidllhnldhnoeaa
open Go.RowKit
set_option linter.unusedVariables false
set_option linter.all false
attribute [local go_sem ↓] app_hide clear_hide

theorem psum_filter_le (f : Int × Int → Bool) {l : List (Int × Int)} (h : ∀ p ∈ l, 1 ≤ p.2) : psum (l.filter f) ≤ psum l := by
  induction l with
  | nil => simp [psum]
  | cons a l ih =>
    have h1 := h a (by simp)
    have h2 := ih fun p hp => h p (by simp [hp])
    rw [List.filter_cons]
    split <;> simp only [psum] <;> omega
theorem psum_take_le (n : Nat) {l : List (Int × Int)} (h : ∀ p ∈ l, 1 ≤ p.2) : psum (l.take n) ≤ psum l := by
  induction l generalizing n with
  | nil => simp [psum]
  | cons a l ih =>
    have h1 := h a (by simp)
    have h3 := psum_nonneg (l := l) fun p hp => h p (by simp [hp])
    rcases n with _ | n
    · simp only [List.take_zero, psum]; omega
    · have h2 := ih n fun p hp => h p (by simp [hp])
      simp only [List.take_succ_cons, psum]; omega
theorem dsum_le (now : Int) (n : Nat) {l : List (Int × Int)} (h : ∀ p ∈ l, 1 ≤ p.2) : 0 ≤ dsum now (l.take n) ∧ dsum now (l.take n) ≤ psum l := by
  have h' : ∀ p ∈ l.take n, 1 ≤ p.2 := fun p hp => h p (List.mem_of_mem_take hp)
  exact ⟨psum_nonneg fun p hp => h' p (List.mem_filter.1 hp).1, Int.le_trans (psum_filter_le _ h') (psum_take_le n h)⟩
theorem dsum_step (now : Int) {l : List (Int × Int)} (h : ∀ p ∈ l, 1 ≤ p.2) (j : Nat) (p : Int × Int) (hj : l[j]? = some p) : dsum now (l.take j) + p.2 ≤ psum l := by
  have h' : ∀ p ∈ l.take j, 1 ≤ p.2 := fun p hp => h p (List.mem_of_mem_take hp)
  have h1 := psum_filter_le (fun p => decide (p.1 ≤ now)) h'
  have h2 := psum_take_le (j + 1) h
  rw [take_snoc' l j p hj, psum_append] at h2
  simp only [psum] at h2
  unfold dsum
  omega
theorem keep_all (now : Int) (l : List (Int × Int)) (h : ∀ q ∈ l, now < q.1) : keep now l = l ∧ dsum now l = 0 := by
  constructor
  · unfold keep
    rw [List.filter_eq_self]
    intro q hq
    have := h q hq
    simp; omega
  · unfold dsum
    have : l.filter (fun p => decide (p.1 ≤ now)) = [] := by
      rw [List.filter_eq_nil_iff]
      intro q hq
      have := h q hq
      simp; omega
    rw [this]; rfl
theorem PV_set (l sp : List (Int × Int)) (rest : List Value) (i : Nat) (p : Int × Int) (h : i < l.length) : (((PV l ++ rest).toArray.setIfInBounds (i * 2) (.int .i64 p.1)).setIfInBounds (i * 2 + 1) (.int .i64 p.2)) = (PV (l.set i p) ++ rest).toArray := by
  apply Array.toList_inj.1
  simp only [Array.toList_setIfInBounds]
  induction l generalizing i with
  | nil => simp at h
  | cons a l ih =>
    rcases i with _ | i
    · simp [PV]
    · have := ih i (by simpa using h)
      simp only [PV, List.flatMap_cons, Nat.succ_mul, List.set_cons_succ] at *
      rw [show i * 2 + 2 = i * 2 + 1 + 1 from rfl]
      simpa using this

/-- Behind DeleteFunc: the slice's own row holds what stays. -/
def Kept (w : World) (B bn : Nat) (A : Option Addr) (now n0 : Int) (l : List (Int × Int)) (e : Ending) (w' : World) : Prop :=
  ∃ c', e = .returned (.slice A (keep now l).length c') ∧ w'.ownsRow B 40 2 (.slice A (keep now l).length c') (keep now l).length (PV (keep now l)) ∧ Only (bn :: blkOf A) w w' ∧ Blk w' bn 2 #[.int .i64 (n0 + dsum now l)]

set_option maxHeartbeats 1000000 in
theorem delete_any (B n c : Nat) (A : Option Addr) (l : List (Int × Int)) (pn : Addr) (bn : Nat) (now n0 : Int) (w : World) (hl : l.length = n) (hn : n ≤ 16) (h : w.ownsRow B 40 2 (.slice A n c) n (PV l)) (hp : w.cell? pn = some (.int .i64 now)) (hb : Blk w bn 2 #[.int .i64 n0])
    (hpb : pn.block ≠ bn) (hpA : pn.block ∉ blkOf A) (ham : ∀ p ∈ l, 1 ≤ p.2) (hn0 : 0 ≤ n0) (hsum : n0 + psum l ≤ 2199023255552) :
    Calls Try.prog 22 #[.slice A n c, .func (.func 24) #[] #[.pointer (some pn), .pointer (some ⟨bn, 0, none⟩)]] w (Kept w B bn A now n0 l) := by
  have hAb : bn ∉ blkOf A := own_ne h hb (by decide)
  have hidx := index_any 0 n c A l pn bn now n0 w hl hn (PSrc.own h) hp hb hpb (fun a ha => by subst ha; simp [blkOf] at hAb; exact fun e => hAb e.symm) (fun p hp => by
    have h1 := ham p hp
    obtain ⟨j, hj⟩ := List.getElem?_of_mem hp
    have h2 := dsum_step now ham j p hj
    have h3 := (dsum_le now j ham).1
    omega)
  have HI := hide hidx
  have HW := hide h
  have HL := hide hl
  have HM := hide ham
  clear hidx h hl ham
  go_enter Try.func22, Try.ntmps22
  go_wp2_with fail
  refine HI.out.mono ?_
  rintro e w1 ⟨ho1, (⟨rfl, hall, hb1⟩ | ⟨k, p, hk, rfl, hpre, hd, hb1⟩)⟩
  · obtain ⟨hk1, hk2⟩ := keep_all now l hall
    clear hall
    go_wp2_with fail
    go_ret
    refine ⟨c, ?_⟩
    rw [hk1, hk2, HL.out, Int.add_zero]
    exact ⟨rfl, own_only' HW.out ho1 (fun x hx => by simp; rintro rfl; exact hAb hx), ho1.mono (fun x hx => .inl (by simp at hx; simp [hx])), hb1⟩
  · have hkl := (List.getElem?_eq_some_iff.1 hk).1
    have hkn : k < n := by rw [← HL.out]; exact hkl
    have hne : ((k : Int) == -1) = false := by simp
    obtain ⟨g, rfl, _, _⟩ := own_cell HW.out (by omega)
    have hgb : bn ≠ g := by simpa [blkOf] using hAb
    have hpg : pn.block ≠ g := by simpa [blkOf] using hpA
    go_wp2_with fail
    have hrow := own_only' HW.out ho1 (fun x hx => by simp [blkOf] at hx ⊢; subst hx; exact hgb.symm)
    obtain ⟨cur, hcur, hcl, hct, hnc, hcm, hBg⟩ : ∃ cur : List Value, Blk w1 g 40 cur.toArray ∧ cur.length = c * 2 ∧ cur.take (n * 2) = PV l ∧ n ≤ c ∧ c ≤ maxLen ∧ B ≤ g := by
      rcases hrow.2 with ⟨h', _⟩ | ⟨g', cap', cur, h', hb', hg', hn', hm', hs', ht'⟩
      · simp at h'
      · simp only [Value.slice.injEq, Option.some.injEq, Addr.mk.injEq, and_true, true_and] at h'
        obtain ⟨rfl, rfl⟩ := h'
        exact ⟨cur.toList, by simpa [Blk] using hg', by simpa using hs', by simpa using ht', hn', hm', hb'⟩
    obtain ⟨sp, hsp⟩ : ∃ sp, cur = PV l ++ sp := ⟨cur.drop (n * 2), by rw [← hct, List.take_append_drop]⟩
    have hsl : (PV l ++ sp).length = c * 2 := by rw [← hsp]; exact hcl
    subst hsp
    have HSL := hide hsl
    have HK := hide hk
    have HPRE := hide hpre
    have hk1 : keep now (l.take (k + 1)) = l.take k ∧ dsum now (l.take (k + 1)) = p.2 := by
      obtain ⟨e1, e2⟩ := keep_all now (l.take k) hpre
      rw [take_snoc' l k p hk, keep_snoc, dsum_snoc, if_pos hd, if_pos hd, e1, e2]
      simp
    have HK1 := hide hk1
    have h2p := dsum_step now HM.out k p hk
    have hpp : Only [bn] w w1 := ho1
    have qp1 := ho1.keep hp (by simpa using hpb)
    clear hsl hk hpre hk1 hct hcl hrow hne
    go_loopw [5, 6] (fun i j wr => ∃ (x y : Nat) (ys : List (Int × Int)), x < y ∧ y ≤ n ∧ i = .int .i64 x ∧ j = .int .i64 y ∧ ys.length = n ∧ ys.take x = keep now (l.take y) ∧ ys.drop y = l.drop y ∧
      Blk wr g 40 (PV ys ++ sp).toArray ∧ Only [bn, g] w1 wr ∧ Blk wr bn 2 #[.int .i64 (n0 + dsum now (l.take y))]) (fun _ j _ => n - (intOf j).toNat)
    case atStart => exact ⟨k, k + 1, l, by omega, by omega, rfl, by go_num, HL.out, HK1.out.1.symm, rfl, hcur, Only.refl _ _, by rw [HK1.out.2]; exact hb1⟩
    case round =>
      obtain ⟨x, y, ys, hxy, hyn, rfl, rfl, hyl, hyt, hyd, hB, hO, hN⟩ := hrel
      have HYL := hide hyl
      have HYT := hide hyt
      have HYD := hide hyd
      clear hyl hyt hyd
      by_cases hlt : y < n
      · obtain ⟨q, hq⟩ : ∃ q, l[y]? = some q := ⟨_, List.getElem?_eq_getElem (by rw [HL.out]; exact hlt)⟩
        have hyq : ys[y]? = some q := by
          have := congrArg (fun z => z[0]?) HYD.out
          simpa [List.getElem?_drop, hq] using this
        obtain ⟨e0, e1⟩ := PV_get ys y q hyq
        have hlen2 : (PV ys).length = n * 2 := by rw [length_PV, HYL.out]
        have q0 : wr.cell? ⟨g, y * 2, none⟩ = some (.int .i64 q.1) := by rw [hB.cell, List.getElem?_toArray, List.getElem?_append_left (by omega)]; exact e0
        have q1 : wr.cell? ⟨g, y * 2 + 1, none⟩ = some (.int .i64 q.2) := by rw [hB.cell, List.getElem?_toArray, List.getElem?_append_left (by omega)]; exact e1
        have hgr := hB.lt
        have qp : wr.cell? pn = some (.int .i64 now) := hO.keep qp1 (by simp [hpb, hpg])
        have hds := dsum_step now HM.out y q hq
        have hds0 := (dsum_le now y HM.out).1
        have ham := HM.out q (List.mem_of_getElem? hq)
        have HQ := hide hq
        have HYQ := hide hyq
        have j1 : (y : Int) < (n : Int) := by omega
        have j2 : (x : Int) < (n : Int) := by omega
        clear hq hyq e0 e1 hlen2
        go_wp2_with fail
        have hN1 := hN.alloc (.cells #[.int .i64 q.1, .int .i64 q.2] 40)
        have hB1 := hB.alloc (.cells #[.int .i64 q.1, .int .i64 q.2] 40)
        have qp' := cell_alloc (.cells #[.int .i64 q.1, .int .i64 q.2] 40) qp
        refine (due1_any pn bn now q.1 q.2 (n0 + dsum now (l.take y)) _ qp' hN1 (by omega) (by omega) hpb).mono ?_
        by_cases hd' : q.1 ≤ now
        · rw [if_pos hd', decide_eq_true hd']
          rintro e w2 ⟨rfl, ho2, hb2⟩
          have hO2 : Only [bn, g] w1 w2 := (hO.alloc _).trans ho2 (by simp)
          have hB2 := hB1.only ho2 (by simpa using hgb.symm)
          go_wp2
          go_roundw
          case rel =>
            refine ⟨x, y + 1, ys, by omega, by omega, rfl, by go_num, HYL.out, ?_, ?_, hB2, hO2, ?_⟩
            · rw [take_snoc' l y q HQ.out, keep_snoc, if_pos hd', List.append_nil]; exact HYT.out
            · have := congrArg (fun z => z.drop 1) HYD.out
              simpa [List.drop_drop] using this
            · rw [take_snoc' l y q HQ.out, dsum_snoc, if_pos hd', ← Int.add_assoc]; exact hb2
          case measure => simp [intOf]; omega
        · rw [if_neg hd', decide_eq_false hd']
          rintro e w2 ⟨rfl, ho2, hb2⟩
          have hO2 : Only [bn, g] w1 w2 := (hO.alloc _).trans ho2 (by simp)
          have hB2 := hB1.only ho2 (by simpa using hgb.symm)
          have hv2 := (Blk.new wr 40 #[.int .i64 q.1, .int .i64 q.2]).only ho2 (by simp; have := hN.lt; omega)
          have v0 : w2.cell? ⟨wr.heap.size, 0, none⟩ = some (.int .i64 q.1) := by rw [hv2.cell]; rfl
          have v1 : w2.cell? ⟨wr.heap.size, 1, none⟩ = some (.int .i64 q.2) := by rw [hv2.cell]; rfl
          have hlen2 : (PV ys ++ sp).length = c * 2 := by rw [List.length_append, length_PV, HYL.out, ← HSL.out, List.length_append, length_PV, HL.out]
          have z0 := hB2.frozen (x * 2)
          have z1 := hB2.frozen (x * 2 + 1)
          obtain ⟨o0, c0⟩ : ∃ o0, w2.cell? ⟨g, x * 2, none⟩ = some o0 := ⟨_, by rw [hB2.cell, List.getElem?_toArray, List.getElem?_eq_getElem (by omega)]⟩
          obtain ⟨o1, c1⟩ : ∃ o1, w2.cell? ⟨g, x * 2 + 1, none⟩ = some o1 := ⟨_, by rw [hB2.cell, List.getElem?_toArray, List.getElem?_eq_getElem (by omega)]⟩
          clear hlen2
          have hB3 := (hB2.set_ (x * 2) (.int .i64 q.1)).set_ (x * 2 + 1) (.int .i64 q.2)
          rw [PV_set ys [] sp x q (by rw [HYL.out]; omega)] at hB3
          have hO3 : Only [bn, g] w1 ((w2.setCell ⟨g, x * 2, none⟩ (.int .i64 q.1)).setCell ⟨g, x * 2 + 1, none⟩ (.int .i64 q.2)) := (hO2.setCell (.inl (by simp)) _).setCell (.inl (by simp)) _
          have hb3 := (hb2.far (p := ⟨g, x * 2, none⟩) hgb (.int .i64 q.1)).far (p := ⟨g, x * 2 + 1, none⟩) hgb (.int .i64 q.2)
          go_wp2
          go_roundw
          case rel =>
            refine ⟨x + 1, y + 1, ys.set x q, by omega, by omega, by go_num, by go_num, by rw [List.length_set]; exact HYL.out, ?_, ?_, hB3, hO3, ?_⟩
            · have hx : (ys.set x q)[x]? = some q := by rw [List.getElem?_set_self (by rw [HYL.out]; omega)]
              rw [take_snoc' _ x q hx, take_snoc' l y q HQ.out, keep_snoc, if_neg (by omega), List.take_set_of_le (by omega), HYT.out]
            · have := congrArg (fun z => z.drop 1) HYD.out
              rw [List.drop_set_of_lt (by omega)]
              simpa [List.drop_drop] using this
            · rw [take_snoc' l y q HQ.out, dsum_snoc, if_neg (by omega), Int.add_zero]; exact hb3
          case measure => simp [intOf]; omega
      · have hyy : y = n := by omega
        subst hyy
        have hcapx : (x : Int) < (y : Int) := by omega
        obtain ⟨w3, hclr, ⟨news, hnl, hB3⟩, ho3⟩ := run_clear_any (P := Try.prog) (w := wr) 37 40 0 (.agg #[.int .i64 0, .int .i64 0]) Try.underlying37 (fun W => by kernel_rfl) (by intro v hv; simp [Value.cells] at hv; rcases hv with rfl | rfl <;> rfl)
          (some ⟨g, x * 2, none⟩) (y - x) (c - x) g (x * 2) (PV ys ++ sp) (fun _ => rfl) hB (by
            have : (PV ys ++ sp).length = c * 2 := by rw [List.length_append, length_PV, HYL.out, ← HSL.out, List.length_append, length_PV, HL.out]
            rw [this]; simp [Value.cells]; omega)
        have hsl := fun W => run_cut_l (P := Try.prog) Try.underlying37 (show (Try.prog.info? 40).map (·.size) = some 2 by kernel_rfl) (some ⟨g, 0, none⟩) y c .i64 (x : Int) x rfl (by omega) W
        rw [if_neg (by omega)] at hsl
        simp only [Option.map_some, add_mk, Nat.zero_add] at hsl
        have hsh := fun W => run_cut_h (P := Try.prog) Try.underlying37 (show (Try.prog.info? 40).map (·.size) = some 2 by kernel_rfl) g 0 y c .i64 (x : Int) x rfl (by omega) W
        go_wp2_with fail
        go_ret
        have hkx : keep now l = ys.take x := by rw [HYT.out, List.take_of_length_le (by rw [HL.out]; exact Nat.le_refl _)]
        have hkl' : (keep now l).length = x := by rw [hkx, List.length_take, HYL.out]; omega
        have hlen2 : (PV ys ++ sp).length = c * 2 := by rw [List.length_append, length_PV, HYL.out, ← HSL.out, List.length_append, length_PV, HL.out]
        have hys : PV (ys.take x) = (PV ys).take (x * 2) := by
          have h2 : PV ys = PV (ys.take x) ++ PV (ys.drop x) := by rw [← PV_append, List.take_append_drop]
          rw [h2, List.take_left' (by rw [length_PV, List.length_take, HYL.out]; omega)]
        refine ⟨c, ?_⟩
        rw [hkl']
        refine ⟨rfl, ⟨by rw [length_PV, hkl'], .inr ⟨g, c, _, rfl, hBg, hB3, by omega, hcm, ?_, ?_⟩⟩, ?_, ?_⟩
        · simp only [List.size_toArray]
          rw [length_splice _ _ _ (by rw [hnl, hlen2]; simp [Value.cells]; omega), hlen2]
        · have hl4 : x * 2 ≤ (PV ys).length := by rw [length_PV, HYL.out]; omega
          simp only [splice, hkx, hys]
          rw [List.take_append_of_le_length (by simp; omega), List.take_take, Nat.min_self, List.take_append_of_le_length hl4]
        · have hO4 : Only [bn, g] w w3 := ((hpp.mono (by simp)).trans' hO).trans ho3 (by simp)
          exact hO4
        · have hb4 := hN.only ho3 (by simpa using hgb)
          rw [List.take_of_length_le (by rw [HL.out]; exact Nat.le_refl _)] at hb4
          exact hb4
end Go.Proofs.Ytidllhnldhnoeaa
