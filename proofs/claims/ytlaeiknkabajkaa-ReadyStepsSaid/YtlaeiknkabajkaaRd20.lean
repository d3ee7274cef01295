/- Ready lists, the document's answer: the walk of Remove. Condition: the rows lie. -/
import Derived.Test.YtlaeiknkabajkaaRd19
namespace Go.Proofs.Ytlaeiknkabajkaa
open Go.RowKit Go.Shelf
set_option linter.unusedVariables false
set_option linter.all false
set_option maxRecDepth 20000
attribute [local go_sem ↓] app_hide

theorem rem_arg (d : Nat) (t : Int) (w : World) (ha : ¬ (0 ≤ t ∧ t < 16)) : Calls Try.prog 21 #[ptr d, .int .i64 t] w fun e w' => e = .returned (.int .i64 2) ∧ w' = w := by
  unfold ptr
  by_cases c3 : t < 0
  · have d3 : decide (t < 0) = true := decide_eq_true c3
    clear ha
    go_enter Try.func21, Try.ntmps21
    go_wp2_with fail
    go_ret
    exact ⟨rfl, rfl⟩
  have d3 : decide (t < 0) = false := decide_eq_false c3
  have d4 : decide (16 ≤ t) = true := decide_eq_true (by omega)
  clear ha
  go_enter Try.func21, Try.ntmps21
  go_wp2_with fail
  go_ret
  exact ⟨rfl, rfl⟩
theorem rem_none (d : Nat) (q : Nat → List Nat) (t : Nat) (ht : t < 16) (h0 : q 0 = []) (hl : ∀ p, (q p).length ≤ 16) (w : World) (h : DQ w d q) (hp : prioI q t = 0) :
    Calls Try.prog 21 #[ptr d, .int .i64 t] w fun e w' => e = .returned (.int .i64 6) ∧ w' = w := by
  have PR := rprio_any d q t h0 hl w h
  rw [hp] at PR
  have PR := hide PR
  have d3 : decide ((t : Int) < 0) = false := by simp
  have d4 : decide (16 ≤ (t : Int)) = false := by simp; omega
  clear h h0 hl hp
  unfold ptr at PR ⊢
  go_enter Try.func21, Try.ntmps21
  go_wp2_with (go_at_call 29; refine PR.out.mono ?_; rintro e w' ⟨he, hw⟩; obtain rfl := hw.symm; clear hw; unfold prioE at he; rw [decide_eq_false (show ¬ ((((0 : Nat) : Int)) ≠ 0) by simp)] at he; subst he)
  go_ret
  exact ⟨rfl, rfl⟩
theorem filter_snoc (L : List Nat) (t i v : Nat) (h : L[i]? = some v) : (L.take (i + 1)).filter (fun x => decide (x ≠ t)) = (L.take i).filter (fun x => decide (x ≠ t)) ++ (if v = t then [] else [v]) := by
  rw [List.take_add_one, List.filter_append, h]
  by_cases e : v = t <;> simp [e]
set_option maxHeartbeats 2000000 in
theorem rem_good (d : Nat) (q : Nat → List Nat) (p t : Nat) (h1 : 1 ≤ p) (h2 : p ≤ 31) (ht : t < 16) (h0 : q 0 = []) (hl : ∀ p, (q p).length ≤ 16) (w : World) (h : DQ w d q) (hp : prioI q t = p) :
    Calls Try.prog 21 #[ptr d, .int .i64 t] w fun e w' => PutD w d (setq q p ((q p).filter fun x => decide (x ≠ t))) 0 e w' := by
  have PR := rprio_any d q t h0 hl w h
  rw [hp] at PR
  have PR := hide PR
  have HD := hide h
  obtain ⟨cs, A, c, hb, hz, hr⟩ := h
  obtain ⟨hc, hrow⟩ := hr p (by omega)
  have k1 : w.cell? ⟨d, p, none⟩ = some (.slice (A p) (q p).length (c p)) := (hb.cell p).trans hc
  have f1 := hb.frozen p
  have hn16 := hl p
  have hdl := hb.lt
  have HS := hide hrow.nsrc
  obtain ⟨L, hL⟩ : ∃ L, q p = L := ⟨_, rfl⟩
  obtain ⟨A1, hA1⟩ : ∃ A1, A p = A1 := ⟨_, rfl⟩
  obtain ⟨c1, hc1⟩ : ∃ c1, c p = c1 := ⟨_, rfl⟩
  rw [hA1, hL, hc1] at k1
  rw [hL] at hn16
  rw [hA1, hL] at HS
  rw [hL]
  clear hb hz hr hc hrow hA1 hc1 hL h0 hl hp
  have d3 : decide ((t : Int) < 0) = false := by simp
  have d4 : decide (16 ≤ (t : Int)) = false := by simp; omega
  have i1 : (0 : Int) ≤ (p : Int) := by omega
  have i2 : (p : Int) < 32 := by omega
  have HP := hide (show ((p : Nat) : Int) ≠ 0 by omega)
  unfold ptr at PR ⊢
  go_enter Try.func21, Try.ntmps21
  go_wp2_with (go_at_call 29; refine PR.out.mono ?_; rintro e w' ⟨he, hw⟩; obtain rfl := hw.symm; clear hw; unfold prioE at he; rw [decide_eq_true HP.out] at he; subst he)
  have F1 := hide f1
  have K1 := hide k1
  clear f1 k1
  go_loopw [7, 8] (fun vl vi wr => ∃ (i : Nat) (A2 : Option Addr) (c2 : Nat) (M : List Nat), i ≤ L.length ∧ vi = .int .i64 i ∧ vl = .slice A2 M.length c2 ∧ M = (L.take i).filter (fun x => decide (x ≠ t)) ∧ wr.ownsRow w.heap.size 3 1 (.slice A2 M.length c2) M.length (NV M) ∧ Only [] w wr) (fun _ vi _ => L.length - (intOf vi).toNat)
  case atStart => exact ⟨0, none, 0, [], Nat.zero_le _, rfl, rfl, by simp, World.ownsRow_nil .., Only.refl _ _⟩
  case round =>
    obtain ⟨i, A2, c2, M, hi, rfl, rfl, hM, hown, hO⟩ := hrel
    have k1 := hO.keep K1.out (by simp)
    have hM16 : M.length ≤ 16 := by rw [hM]; have := List.length_filter_le (fun x => decide (x ≠ t)) (L.take i); rw [List.length_take] at this; omega
    have HM := hide hM
    have HO := hide hO
    have HW := hide hown
    clear hM hO hown
    by_cases hin : i < L.length
    · obtain ⟨v, hv⟩ : ∃ v, L[i]? = some v := ⟨_, List.getElem?_eq_getElem hin⟩
      obtain ⟨g, hg, hgc⟩ := HS.out (by omega)
      have kc := HO.out.keep0 (hgc i v hv)
      have j1 : (i : Int) < (L.length : Int) := by omega
      have j0 : (0 : Int) ≤ (i : Int) := by omega
      have HV := hide hv
      have hfs := filter_snoc L t i v hv
      rw [← HM.out] at hfs
      subst hg
      clear hgc hv
      by_cases hvt : v = t
      · rw [if_pos hvt, List.append_nil] at hfs
        have HF := hide hfs
        clear hfs
        subst hvt
        go_wp2_with fail
        go_roundw
        case rel => exact ⟨i + 1, A2, c2, M, by omega, by go_num, rfl, HF.out.symm, HW.out, HO.out⟩
        case measure => simp [intOf]; omega
      · rw [if_neg hvt] at hfs
        have HF := hide hfs
        have gv : ((v : Int) == (t : Int)) = false := by simp; omega
        have gv2 : ((v : Int) != (t : Int)) = true := by simp; omega
        have hwB : w.heap.size ≤ wr.heap.size := HO.out.size
        obtain ⟨A3, c3, w3, e1, r1, o1⟩ := app_src (wr.alloc (.cells #[.int .i64 (v : Int)] 3)) w.heap.size A2 c2 M (some ⟨wr.heap.size, 0, none⟩) 1 [v] M.length 1 rfl rfl (own_only' HW.out ((Only.refl [] wr).alloc _) (by simp)) (Nsrc.own (own_new wr v)) (by simp; omega) (by simp; omega)
        have R1 := hide r1
        have o3 : Only [] w w3 := (HO.out.alloc (.cells #[.int .i64 (v : Int)] 3)).trans o1 (fun k hk => .inr (own_ge HW.out k hk).1)
        have O3 := hide o3
        clear hfs hvt r1 o1 o3
        go_wp2_with fail
        go_roundw
        case rel => exact ⟨i + 1, A3, c3, M ++ [v], by omega, by go_num, by simp, HF.out.symm, by simpa using R1.out, O3.out⟩
        case measure => simp [intOf]; omega
    · obtain rfl : i = L.length := by omega
      have hMF : M = L.filter (fun x => decide (x ≠ t)) := by rw [HM.out, List.take_length]
      have f1 := (HO.out.frozen (p := ⟨d, p, none⟩) hdl (by simp)).trans F1.out
      have G := hide (DQ.set_ HD.out HO.out (show p < 32 by omega) rfl HW.out hdl)
      rw [hMF] at G
      have HMF := hide hMF
      clear hMF
      go_wp2_with fail
      go_ret
      unfold PutD
      exact ⟨rfl, by first | exact G.out | (rw [HMF.out]; exact G.out)⟩
theorem rrem_spec (d : Nat) (q : Nat → List Nat) (t : Int) (h0 : q 0 = []) (hl : ∀ p, (q p).length ≤ 16) (hn : ∀ p, (q p).Nodup) (ho : ∀ p t, t ∈ q p → 1 ≤ p ∧ p ≤ 31) (w : World) (h : DQ w d q) :
    Calls Try.prog 21 #[ptr d, .int .i64 t] w fun e w' => e = .returned (.int .i64 (remC q t)) ∧ DQ w' d (remQ q t) ∧ Only [d] w w' := by
  have hkeep : ∀ c : Int, remC q t = c → c ≠ 0 → remQ q t = q := fun c hc hz => by simp [remQ, hc, hz]
  by_cases ha : 0 ≤ t ∧ t < 16
  · obtain ⟨T, rfl⟩ : ∃ m : Nat, t = m := ⟨t.toNat, by omega⟩
    have hpi : prioI q (T : Int) = prioQ q T := by unfold prioI; rw [if_pos (by omega), Int.toNat_natCast]
    by_cases hz : prioQ q T = 0
    · have hc : remC q T = 6 := by unfold remC; rw [if_neg (by simpa using ha), if_pos (by simpa using hz)]
      refine (rem_none d q T (by omega) h0 hl w h (by rw [hpi]; exact hz)).mono ?_
      rintro e w' ⟨rfl, hw⟩
      obtain rfl := hw.symm
      rw [hkeep 6 hc (by decide)]
      exact ⟨by rw [hc], h, Only.refl _ _⟩
    · have hc : remC q T = 0 := by unfold remC; rw [if_neg (by simpa using ha), if_neg (by simpa using hz)]
      obtain ⟨p, hP⟩ : ∃ p, prioQ q T = p := ⟨_, rfl⟩
      have hm : T ∈ q p := by
        unfold prioQ at hP hz
        cases hf : (List.range 32).find? fun p => (q p).contains T with
        | none => rw [hf] at hz; simp at hz
        | some p' =>
          rw [hf] at hP
          have := List.find?_some hf
          have hP' : p' = p := by simpa using hP
          rw [hP'] at this
          simpa using this
      obtain ⟨p1, p2⟩ := ho p T hm
      refine (rem_good d q p T p1 p2 (by omega) h0 hl w h (by rw [hpi, hP])).mono ?_
      rintro e w' ⟨he, hD, o⟩
      refine ⟨by rw [he, hc], ?_, o⟩
      have : remQ q T = setq q p ((q p).filter fun x => decide (x ≠ T)) := by
        unfold remQ
        rw [if_pos hc, Int.toNat_natCast, hP, (hn p).erase_eq_filter]
        congr 1
        refine List.filter_congr (fun x _ => ?_)
        by_cases e : x = T <;> simp [e]
      rw [this]
      exact hD
  · have hc : remC q t = 2 := by unfold remC; rw [if_pos ha]
    refine (rem_arg d t w ha).mono ?_
    rintro e w' ⟨rfl, hw⟩
    obtain rfl := hw.symm
    rw [hkeep 2 hc (by decide)]
    exact ⟨by rw [hc], h, Only.refl _ _⟩
end Go.Proofs.Ytlaeiknkabajkaa
