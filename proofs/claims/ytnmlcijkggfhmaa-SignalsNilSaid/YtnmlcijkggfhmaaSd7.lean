/- Signals, the document's answer: the walk of Clear. Condition: it lies. -/
import Derived.Test.YtnmlcijkggfhmaaSd6
namespace Go.Proofs.Ytnmlcijkggfhmaa
open Go.RowKit
set_option linter.unusedVariables false
set_option linter.all false
set_option maxRecDepth 20000

/-- What is pending when all of a thread was taken. -/
def clrL (T : Nat) (L : List Snt) (t : Int) : List Snt := if inT T t then L.filter (fun x => !(x.t == t.toNat)) else L
def clrM (M : Nat → Nat) (T : Nat) (t : Int) : Nat → Nat := if inT T t then setM M t.toNat 0 else M
theorem filter_take (L : List Snt) (t n : Nat) : (takeL L t n).filter (fun x => !(x.t == t)) = L.filter (fun x => !(x.t == t)) := by
  unfold takeL
  induction L with
  | nil => rfl
  | cons x L ih =>
    cases hx : isK t n x
    · rw [List.eraseP_cons_of_neg (by simp [hx])]
      by_cases ht : x.t = t
      · rw [List.filter_cons_of_neg (by simp [ht]), List.filter_cons_of_neg (by simp [ht])]
        exact ih
      · rw [List.filter_cons_of_pos (by simpa using ht), List.filter_cons_of_pos (by simpa using ht), ih]
    · rw [List.eraseP_cons_of_pos hx]
      have ht : x.t = t := by simp only [isK, Bool.and_eq_true, beq_iff_eq] at hx; exact hx.1
      rw [List.filter_cons_of_neg (by simp [ht])]
theorem filter_none {L : List Snt} {t : Nat} (h : ∀ x ∈ L, x.t ≠ t) : L.filter (fun x => !(x.t == t)) = L := List.filter_eq_self.2 (fun x hx => by simpa using h x hx)
theorem rclear_nil (t : Int) (w : World) : Calls Try.prog 30 #[.pointer none, .int .i64 t] w fun e w' => e = .returned (.tuple #[.int .i64 0, .int .i64 1]) ∧ w' = w := by
  go_enter Try.func30, Try.ntmps30
  go_wp2_with fail
  exact bodyPost_ret (v := .tuple #[.int .i64 0, .int .i64 1]) (by simp [results, Try.results30, go_sem]) rfl ⟨rfl, rfl⟩
section
variable {w : World} {d T S : Nat} {L : List Snt} {M : Nat → Nat}
set_option maxHeartbeats 2000000 in
theorem rclear_any (h : DS w d T S L M) (t : Int) : Calls Try.prog 30 #[ptr d, .int .i64 t] w fun e w' => e = .returned (.tuple #[.int .i64 ((allI T L t).length : Nat), .int .i64 (askC T t)]) ∧ DS w' d T S (clrL T L t) (clrM M T t) ∧ Only [d] w w' := by
  have IN := in_ds h t
  have HA := hide (all_len T S t L.length L rfl h.inv)
  have hln := h.len
  by_cases ct : inT T t
  · rw [decide_eq_true ct] at IN
    rw [askC_in ct]
    have IN := hide IN
    have CT := hide ct
    obtain ⟨k, rfl⟩ : ∃ k : Nat, t = k := ⟨t.toNat, by have := ct.1; omega⟩
    have ht1 := h.t1
    have hkT : k < T := by have := ct.2; omega
    have i0 : (0 : Int) ≤ (k : Int) := by omega
    have i1 : (k : Int) < 16 := by omega
    have H := hide h
    clear ct h
    unfold ptr at IN ⊢
    go_enter Try.func30, Try.ntmps30
    go_wp2_with (go_at_call 41; refine IN.out.mono ?_; rintro e w' ⟨rfl, hw⟩; obtain rfl := hw.symm; clear hw)
    go_loopw [6] (fun vn wr => ∃ (n : Nat) (L' : List Snt), vn = .int .i64 n ∧ Hid (n + (allI T L' k).length = (allI T L k).length) ∧ Hid (L'.filter (fun x => !(x.t == k)) = L.filter (fun x => !(x.t == k))) ∧ Hid (DS wr d T S L' M) ∧ Hid (Only [d] w wr) ∧ n ≤ 1000 ∧ True) (fun vn _ => 1001 - (intOf vn).toNat)
    case atStart => exact ⟨0, L, rfl, hide (by simp), hide rfl, H, hide (Only.refl _ _), by omega, trivial⟩
    case round =>
      obtain ⟨n, L', rfl, hn, hf, hD, hO, hn1, -⟩ := hrel
      have NX := hide (rnext_spec hD.out (k : Int) 4294967295 (by decide))
      cases hp : peekI T L' (k : Int) 4294967295 with
      | none =>
        rw [hp] at NX
        have hnl : nextL T L' (k : Int) 4294967295 = L' := by unfold nextL; rw [hp]
        rw [hnl] at NX
        obtain ⟨hz, hno⟩ := peek_all_none hD.out.inv hp
        have HN := hide (show (allI T L k).length = n by rw [← hn.out, hz]; simp)
        have HF := hide (show clrL T L k = L' by
          unfold clrL
          rw [if_pos CT.out, Int.toNat_natCast, ← hf.out]
          exact filter_none (hno CT.out))
        unfold sigV at NX
        unfold ptr at NX
        clear hp hz hn hf hnl hno
        go_wp2_with (go_at_call 29; refine NX.out.mono ?_; rintro e w2 ⟨rfl, D2, o2⟩; have hm2 := D2.cells; obtain ⟨cs, A, c, hb, hC, hr⟩ := hm2; have hb1 := hb.alloc (.cells #[.int .i64 0, .int .i64 0] 36); have f1 := hb1.frozen (2 + k); have k1 := (hb1.cell (2 + k)).trans (hC.m k (by omega)); clear hb1; have D2 := hide D2; have O2 := hide o2; clear hb hC hr o2)
        have D3 := D2.out.only0 ((Only.refl [] w2).alloc (.cells #[.int .i64 0, .int .i64 0] 36))
        have HM := hide (show clrM M T k = setM M k 0 by unfold clrM; rw [if_pos CT.out, Int.toNat_natCast])
        refine bodyPost_ret (v := .tuple #[.int .i64 n, .int .i64 0]) (by simp [results, Try.results30, go_sem]) rfl ⟨by rw [HN.out], ?_, ?_⟩
        · rw [HF.out, HM.out]
          exact D3.setMask (by omega) (by decide)
        · exact ((hO.out.trans' O2.out).alloc _).setCell (p := ⟨d, 2 + k, none⟩) (.inl (by simp)) _
      | some x =>
        obtain ⟨xn, xv⟩ := x
        rw [hp] at NX
        obtain ⟨_, h2, h3⟩ := peek_all_some hD.out.inv hp
        have hnl : nextL T L' (k : Int) 4294967295 = takeL L' k xn := by unfold nextL; rw [hp]; rfl
        rw [hnl] at NX
        simp only [Int.toNat_natCast] at h2
        have hf2 := filter_take L' k xn
        obtain ⟨L2, hL2⟩ : ∃ L2, takeL L' k xn = L2 := ⟨_, rfl⟩
        rw [hL2] at NX h2 hf2
        have hlen : n + 1 ≤ 1000 := by
          have h5 := HA.out
          have h6 := hn.out
          rw [h2] at h6
          simp at h6
          omega
        have HN := hide (show n + 1 + (allI T L2 k).length = (allI T L k).length by rw [← hn.out, h2]; simp; omega)
        have HF := hide (hf2.trans hf.out)
        unfold sigV at NX
        unfold ptr at NX
        simp only at NX
        clear hp h2 h3 hnl hL2 hn hf hf2
        go_wp2_with (go_at_call 29; refine NX.out.mono ?_; rintro e w2 ⟨rfl, D2, o2⟩; have D2 := hide D2; have O2 := hide o2; clear o2)
        go_roundw
        case rel => exact ⟨n + 1, L2, by go_num, HN, HF, hide (D2.out.only0 ((Only.refl [] w2).alloc _)), hide ((hO.out.trans' O2.out).alloc _), by omega, trivial⟩
        case measure => simp [intOf]; omega
  · rw [decide_eq_false ct] at IN
    rw [askC_out ct]
    have IN := hide IN
    have HZ := hide (show (allI T L t).length = 0 by unfold allI; rw [if_neg ct]; rfl)
    have HL := hide (show clrL T L t = L by unfold clrL; rw [if_neg ct])
    have HM := hide (show clrM M T t = M by unfold clrM; rw [if_neg ct])
    have H := hide h
    clear ct h
    unfold ptr at IN ⊢
    go_enter Try.func30, Try.ntmps30
    go_wp2_with (go_at_call 41; refine IN.out.mono ?_; rintro e w' ⟨rfl, hw⟩; obtain rfl := hw.symm; clear hw)
    refine bodyPost_ret (v := .tuple #[.int .i64 0, .int .i64 2]) (by simp [results, Try.results30, go_sem]) rfl ⟨by rw [HZ.out]; rfl, ?_, Only.refl _ _⟩
    rw [HL.out, HM.out]
    exact H.out
end
end Go.Proofs.Ytnmlcijkggfhmaa
