/- Turns, the document's answer: the walk of take. Condition: the document's turns lie. -/
import Derived.Test.YtnndengdlokmbaaTu21
import Derived.BigRegion
import Derived.BigQuiet
namespace Go.Proofs.Ytnndengdlokmbaa
open Go.RowKit Go.Shelf
set_option linter.unusedVariables false
set_option linter.all false
set_option maxRecDepth 20000
attribute [local go_sem ↓] app_hide

theorem Row.own' {w : World} {base c n : Nat} {A : Option Addr} {l : List Nat} (hn : l.length = n) (h : w.ownsRow base 3 1 (.slice A n c) n (NV l)) : Row w A l := by
  subst hn
  exact Row.own h
set_option maxHeartbeats 4000000 in
theorem take_good (d : Nat) (Q : Int) (q : Nat → List Nat) (pr : Nat → Int) (rob : Nat → Bool) (lf : Nat → Int) (t P : Nat) (ht : t < 16) (hP : P < 32) (hpr : pr t = P) (hl : (q P).length ≤ 1000) (w : World) (h : DR w d Q q pr rob lf) :
    Calls Try.prog 66 #[.pointer (some ⟨d, 0, none⟩), .int .i64 t] w fun e w' => e = .returned (.tuple #[]) ∧ DR w' d Q (setq q P (wo t (q P))) pr rob lf ∧ Only [d] w w' := by
  have kp := h.cP ht
  rw [hpr] at kp
  obtain ⟨A, c, ks, hrow⟩ := h.cS hP
  have fs := h.fz (1 + P)
  have hdl := h.lt
  have HD := hide h
  obtain ⟨l, hql⟩ : ∃ l, q P = l := ⟨_, rfl⟩
  rw [hql] at ks hrow hl ⊢
  obtain ⟨n, hn⟩ : ∃ n, l.length = n := ⟨_, rfl⟩
  have HN := hide hn
  have SA := hide hrow.nsrc
  rw [hn] at ks hl
  clear hrow hn h hpr hql
  have i1 : (0 : Int) ≤ (t : Int) := by omega
  have i2 : (t : Int) < 16 := by omega
  have i3 : (0 : Int) ≤ (P : Int) := by omega
  have i4 : (P : Int) < 32 := by omega
  go_enter Try.func66, Try.ntmps66
  go_wp2_with fail
  go_quiet (fail)
  go_wp2_with fail
  go_loopw [4, 6] (fun vo vi wr => ∃ (i : Nat) (A' : Option Addr) (c' : Nat), i ≤ n ∧ vi = .int .i64 i ∧ vo = .slice A' (wo t (l.take i)).length c' ∧ wr.ownsRow w.heap.size 3 1 (.slice A' (wo t (l.take i)).length c') (wo t (l.take i)).length (NV (wo t (l.take i))) ∧ Only [] w wr) (fun _ vi _ => n - (intOf vi).toNat)
  case atStart => exact ⟨0, none, 0, Nat.zero_le _, rfl, rfl, World.ownsRow_nil .., (Only.refl [] w).drewN _⟩
  case round =>
    obtain ⟨i, A', c', hi, rfl, rfl, hown, ho⟩ := hrel
    by_cases hlt : i < n
    · obtain ⟨u, hu⟩ : ∃ u, l[i]? = some u := ⟨_, List.getElem?_eq_getElem (by rw [HN.out]; exact hlt)⟩
      obtain ⟨g1, e1, c1⟩ := SA.out (by rw [HN.out]; omega)
      have k1 := ho.keep0 (c1 i u hu)
      have htk : l.take (i + 1) = l.take i ++ [u] := by rw [List.take_add_one, hu]; rfl
      have HT := hide htk
      subst e1
      have j1 : (i : Int) < (n : Int) := by omega
      have j0 : (0 : Int) ≤ (i : Int) := by omega
      have hle : (wo t (l.take i)).length ≤ 1000 := by have := wo_le t (l.take i); simp at this; omega
      clear c1 hu htk kp ks fs
      by_cases hx : (u : Int) = (t : Int)
      · have gx : ((u : Int) != (t : Int)) = false := by simp [hx]
        have HX := hide hx
        have HW := hide hown
        have HO := hide ho
        clear hx hown ho
        go_wp2_with fail
        go_roundw
        case rel => exact ⟨i + 1, A', c', by omega, by go_num, by rw [HT.out, wo_no _ _ _ HX.out], by rw [HT.out, wo_no _ _ _ HX.out]; exact HW.out, HO.out⟩
        case measure => simp [intOf]; omega
      · have gx : ((u : Int) != (t : Int)) = true := by simp [hx]
        have HX := hide hx
        have hge := own_ge hown
        obtain ⟨g', cap', w2, hrun, hown2, o2, hgg⟩ := app_one wr w.heap.size A' c' (wo t (l.take i)) u hown (by omega) ho.size
        have HW := hide hown2
        have HO := hide (only_in ho o2 (fun k hk => (hge k hk).1))
        clear hown hown2 o2 hgg hge hx ho
        go_wp2_with fail
        go_roundw
        case rel => exact ⟨i + 1, some ⟨g', 0, none⟩, cap', by omega, by go_num, by rw [HT.out, wo_yes _ _ _ HX.out]; simp, by rw [HT.out, wo_yes _ _ _ HX.out]; exact HW.out, HO.out⟩
        case measure => simp [intOf]; omega
    · obtain rfl : i = n := by omega
      have hta : l.take i = l := List.take_of_length_le (by rw [HN.out]; omega)
      rw [hta] at hown
      have kp := ho.keep0 kp
      have ks := ho.keep0 ks
      have fs := (ho.frozen (p := ⟨d, 1 + P, none⟩) hdl (by simp)).trans fs
      obtain ⟨m, hm⟩ : ∃ m, wo t l = m := ⟨_, rfl⟩
      rw [hta]
      rw [hm] at hown ⊢
      obtain ⟨M, hM⟩ : ∃ M, m.length = M := ⟨_, rfl⟩
      have HM := hide hM
      have HMM := hide hm
      rw [hM] at hown ⊢
      have HW := hide (Row.own' hM hown)
      have HO := hide ho
      clear hown ho hta hm hM
      go_wp2_with fail
      go_region
      all_goals go_wp2_with fail
      all_goals go_end0
      all_goals exact ⟨rfl, by rw [HMM.out]; exact ((HD.out.only0 HO.out).setS hP HM.out HW.out).only0 (Only.refl [] _).drew, (Only.setCell (HO.out.mono (by simp)) (p := ⟨d, 1 + P, none⟩) (.inl (by simp)) _).drew⟩
end Go.Proofs.Ytnndengdlokmbaa
