/- Walks over wire: Join; the plain laws of reading back. No condition. -/
import Derived.Test.YtmaljajdmgkakaaGreatDoorWi5
namespace Go.Proofs.YtmaljajdmgkakaaGreatDoor
open Go.RowKit
set_option linter.unusedVariables false
set_option linter.all false
set_option maxRecDepth 20000
attribute [local go_sem ↓] app_hide

/-- A slice of slices of bytes. -/
def Pcs (w : World) (P : Option Addr) (L : List (List UInt8)) : Prop := ∀ j ds, L[j]? = some ds → ∃ (a : Addr) (A : Option Addr) (c : Nat), P = some a ∧ w.cell? (a.add j) = some (.slice A ds.length c) ∧ Src w A ds
theorem Pcs.only0 {w w' : World} {P : Option Addr} {L : List (List UInt8)} (h : Pcs w P L) (ho : Only [] w w') : Pcs w' P L := fun j ds hj => by
  obtain ⟨a, A, c, rfl, hc, hs⟩ := h j ds hj
  exact ⟨a, A, c, rfl, ho.keep0 hc, hs.only0 ho⟩
theorem flatten_take_succ (L : List (List UInt8)) (j : Nat) (ds : List UInt8) (h : L[j]? = some ds) : (L.take (j + 1)).flatten = (L.take j).flatten ++ ds := by
  rw [List.take_add_one, h]
  simp
theorem flatten_take_le (L : List (List UInt8)) (j : Nat) : (L.take j).flatten.length ≤ L.flatten.length := by
  have : L.flatten = (L.take j).flatten ++ (L.drop j).flatten := by rw [← List.flatten_append, List.take_append_drop]
  rw [this, List.length_append]
  omega
set_option maxHeartbeats 1000000 in
theorem joinb_any (P : Option Addr) (m c : Nat) (L : List (List UInt8)) (w : World) (hl : L.length = m) (hm : m ≤ 140737488355328) (hP : Pcs w P L) (hsum : L.flatten.length ≤ 140737488355328) : Calls Tryz.prog 48 #[.slice P m c] w (Fresh w L.flatten) := by
  have HP := hide hP
  have HL := hide hl
  clear hP hl
  have hw0 : Blk (w.alloc (.cells #[] 5)) w.heap.size 5 ([] : List Value).toArray := Blk.new w 5 #[]
  have hown0 := own_of_block (base := w.heap.size) (n := 0) (cap := 0) (cur := []) hw0 rfl (Nat.le_refl _) (by unfold maxLen; omega) (Nat.le_refl _)
  have H0 := hide hown0
  clear hw0 hown0
  go_enter Tryz.func48, Tryz.ntmps48
  go_wp2_with fail
  go_loopw [3, 9] (fun vo vi wr => ∃ (j co : Nat) (g : Nat) (done : List UInt8), vo = .slice (some ⟨g, 0, none⟩) done.length co ∧ vi = .int .i64 j ∧ j ≤ m ∧ Only [] w wr ∧ Hid (done = (L.take j).flatten) ∧ Hid (wr.ownsRow w.heap.size 5 1 (.slice (some ⟨g, 0, none⟩) done.length co) done.length (U8s done))) (fun _ vi _ => m - (intOf vi).toNat)
  case atStart => exact ⟨0, 0, w.heap.size, [], rfl, rfl, Nat.zero_le _, (Only.refl _ _).alloc _, hide rfl, H0⟩
  case round =>
    obtain ⟨j, co, g, done, rfl, rfl, hj, hO, hD, hR⟩ := hrel
    by_cases hlt : j < m
    · obtain ⟨ds, hds⟩ : ∃ ds, L[j]? = some ds := ⟨_, List.getElem?_eq_getElem (by rw [HL.out]; exact hlt)⟩
      obtain ⟨a, A, c', rfl, hcell, hs⟩ := (HP.out.only0 hO) j ds hds
      have hstep := flatten_take_succ L j ds hds
      have hle := flatten_take_le L (j + 1)
      rw [hstep, ← hD.out, List.length_append] at hle
      obtain ⟨A2, c2, w2, hrun, hrow2, o2, hk, hA2⟩ := run_app_src w.heap.size _ _ co done A ds.length c' ds wr hR.out rfl hs (by omega) hO.size
      have HA := hide (hA2 (by simp))
      have hO2 := hO.trans o2 (fun x hx => .inr (own_ge hR.out x hx).1)
      have HR2 := hide hrow2
      have HS := hide hstep
      clear hrow2 hk hA2 hs hstep hds o2 hR
      have i1 : (j : Int) < (m : Int) := by omega
      have i0 : (0 : Int) ≤ (j : Int) := by omega
      go_wp2_with fail
      go_roundw
      case rel =>
        obtain ⟨g2, rfl⟩ := HA.out
        refine ⟨j + 1, c2, g2, done ++ ds, ?_, by go_num, by omega, hO2, hide (by rw [HS.out, hD.out]), ?_⟩
        · rw [List.length_append]
        · rw [List.length_append]; exact HR2
      case measure => simp [intOf]; omega
    · obtain rfl : j = m := by omega
      have i1 : ¬ (j : Int) < (j : Int) := by omega
      have e : L.take j = L := by rw [List.take_of_length_le (by rw [HL.out]; exact Nat.le_refl _)]
      go_wp2_with fail
      go_ret
      have hr := hR.out
      have hd := hD.out
      rw [e] at hd
      subst hd
      exact ⟨hO, g, co, rfl, hr⟩

/-! ## The plain laws -/
theorem resN_back (n : Nat) (hn : n < 2 ^ 64) (rest : List UInt8) : resN (numF n ++ rest) = (n, 0, (numF n).length) := by
  have := rdN_back n rest 0 0 (by omega) (by omega) (by omega)
  rw [resN_some this]
  simp
theorem resC_back (n : Nat) (hn : n < 2 ^ 64) (rest : List UInt8) (most : Int) (hm : (n : Int) ≤ most) : resC most (numF n ++ rest) = ((n : Int), (0 : Int), (numF n).length) := by
  unfold resC
  rw [resN_back n hn]
  rw [if_neg (by omega)]
  simp only [if_true]
  rw [if_neg (by omega)]
theorem resB_back (ds rest : List UInt8) (hn : ds.length < 2 ^ 64) (most : Int) (hm : (ds.length : Int) ≤ most) : resB most (numF ds.length ++ (ds ++ rest)) = (0, ds, (numF ds.length).length + ds.length) := by
  unfold resB
  rw [resC_back _ hn _ _ hm]
  simp only [if_true]
  rw [if_neg (by simp only [List.length_append]; omega)]
  simp
/-- A form that is cut short is refused. -/
theorem resB_short (ds : List UInt8) (hn : ds.length < 2 ^ 64) (most : Int) (hm : (ds.length : Int) ≤ most) : (resB most ((numF ds.length ++ ds).take ((numF ds.length ++ ds).length - 1))).1 = 4 := by
  rcases Nat.eq_zero_or_pos ds.length with h0 | h0
  · obtain rfl := List.eq_nil_of_length_eq_zero h0
    rw [show numF ([] : List UInt8).length = [0] from by rw [List.length_nil, numF_small (by omega)]; rfl]
    simp only [List.append_nil, List.length_cons, List.length_nil, Nat.zero_add, Nat.sub_self, List.take_zero]
    have hm' : (0 : Int) ≤ most := by simpa using hm
    have hc : resC most [] = ((0 : Int), (4 : Int), 0) := by
      unfold resC
      rw [if_neg (by omega)]
      rfl
    unfold resB
    rw [hc]
    rfl
  · have e : (numF ds.length ++ ds).take ((numF ds.length ++ ds).length - 1) = numF ds.length ++ ds.take (ds.length - 1) := by
      rw [List.length_append, List.take_append, List.take_of_length_le (by omega)]
      congr 2
      omega
    rw [e]
    unfold resB
    rw [resC_back _ hn _ _ hm]
    simp only [if_true]
    rw [if_pos (by simp only [List.length_append, List.length_take]; omega)]
/-- What was read has just the form that was read. -/
theorem resB_canon (bs : List UInt8) (most : Int) (h0 : 0 ≤ most) (he : (resB most bs).1 = 0) :
    (resB most bs).2.2 = (numF (resB most bs).2.1.length ++ (resB most bs).2.1).length ∧ bs.take (resB most bs).2.2 = numF (resB most bs).2.1.length ++ (resB most bs).2.1 ∧ (resB most bs).2.2 ≤ bs.length ∧ ((resB most bs).2.1.length : Int) ≤ most := by
  have hc := resC_facts most bs
  unfold resB at *
  by_cases h1 : (resC most bs).2.1 = 0
  · simp only [if_pos h1] at he ⊢
    by_cases h2 : ((bs.length - (resC most bs).2.2 : Nat) : Int) < (resC most bs).1
    · simp only [if_pos h2] at he
      exact absurd he (by decide)
    · simp only [if_neg h2] at he ⊢
      obtain ⟨n, k, hn, hk, hr⟩ : ∃ n k : Nat, (resC most bs).1 = n ∧ (resC most bs).2.2 = k ∧ rdN bs 0 0 = some (n, k) := by
        unfold resC at h1 ⊢
        rw [if_neg (by omega)] at h1 ⊢
        unfold resN at h1 ⊢
        cases hr : rdN bs 0 0 with
        | none => rw [hr] at h1; simp at h1
        | some x =>
          obtain ⟨v, k⟩ := x
          rw [hr] at h1
          simp only [if_true] at h1 ⊢
          by_cases hb : most < (v : Int)
          · simp only [if_pos hb] at h1
            exact absurd h1 (by decide)
          · simp only [if_neg hb]
            exact ⟨v, k, rfl, rfl, rfl⟩
      have h2' : ¬ ((bs.length - k : Nat) : Int) < (n : Int) := by rw [← hn, ← hk]; exact h2
      have hc2 := hc.2.2.1 h0
      have hc1 := hc.1
      rw [hn] at hc2
      rw [hk] at hc1
      rw [hn, hk]
      clear h2 hc
      simp only [Int.toNat_natCast]
      obtain ⟨n', e1, e2, e3, _, _, _, e6⟩ := rdN_canon bs 0 0 n k hr (by omega)
      obtain rfl : n = n' := by simpa using e3
      have hlen : ((bs.drop k).take n).length = n := by rw [List.length_take, List.length_drop]; omega
      rw [hlen, List.length_append, hlen]
      refine ⟨by omega, ?_, by omega, hc2⟩
      rw [← e1, Nat.sub_zero]
      rw [List.take_add]
  · simp only [if_neg h1] at he
    exact absurd he h1
end Go.Proofs.YtmaljajdmgkakaaGreatDoor
