/- Walks over sporadic: Clone, Pieces, Due and what it calls. -/
import Derived.Test.YtidllhnldhnoeaaSv2
namespace Go.Proofs.Ytidllhnldhnoeaa
open Go.RowKit
set_option linter.unusedVariables false
set_option linter.all false
attribute [local go_sem ↓] app_hide clear_hide

/-- A slice of pieces that reads as a list: where it has an element it has an address. -/
def PSrc (w : World) (A : Option Addr) (l : List (Int × Int)) : Prop := 0 < l.length → ∃ g, A = some ⟨g, 0, none⟩ ∧ ∀ j, j < l.length * 2 → w.cell? ⟨g, j, none⟩ = (PV l)[j]?
theorem PSrc.own {w : World} {B n c : Nat} {A : Option Addr} {l : List (Int × Int)} (h : w.ownsRow B 40 2 (.slice A n c) n (PV l)) : PSrc w A l := fun hp => by
  have hn : n = l.length := by have := h.1; rw [length_PV] at this; omega
  subst hn
  obtain ⟨g, rfl, hc, _⟩ := own_cell h hp
  exact ⟨g, rfl, hc⟩

/-- slices.Clone at pieces. -/
theorem clone_any (A : Option Addr) (n c : Nat) (l : List (Int × Int)) (w : World) (hl : l.length = n) (hn : n ≤ 16) (hnil : A = none → n = 0 ∧ c = 0) (h : PSrc w A l) (hA : ∀ a, A = some a → a.block < w.heap.size) :
    Calls Try.prog 23 #[.slice A n c] w fun e w' => (∃ A' c', e = .returned (.slice A' n c') ∧ w'.ownsRow w.heap.size 40 2 (.slice A' n c') n (PV l)) ∧ Only [] w w' := by
  obtain ⟨i0, hi, hz0, hz1, hz2⟩ := info_parts piece_info
  have heq := fun (W : World) (a : Option Addr) (n c n' c' : Nat) => Lib.run_eql_slice_nil (P := Try.prog) W 37 40 a n c n' c' Try.underlying37
  rcases A with _ | a
  · obtain ⟨rfl, rfl⟩ := hnil rfl
    obtain rfl : l = [] := List.eq_nil_of_length_eq_zero hl
    clear hnil
    go_enter Try.func23, Try.ntmps23
    go_wp2
    go_ret
    exact ⟨⟨none, 0, rfl, World.ownsRow_nil _ _ _ _⟩, Only.refl _ _⟩
  · have hlt := hA a rfl
    have hcell : ∀ j u, (PV l)[j]? = some u → (w.alloc (.cells #[] 40)).cell? (a.add j) = some u := fun j u hj => by
      have hjl := (List.getElem?_eq_some_iff.1 hj).1
      rw [length_PV] at hjl
      obtain ⟨g, hg, hc⟩ := h (by omega)
      injection hg with hg
      subst hg
      rw [add_mk, Nat.zero_add]
      exact cell_alloc _ ((hc j hjl).trans hj)
    have hown := World.ownsRow_lit (base := w.heap.size) (e := 40) (size := 2) w #[] 0 (Nat.le_refl _) (by unfold maxLen; omega) rfl
    obtain ⟨g', cap', w2, hrun, hown2, ho, hgg⟩ := append_at (P := Try.prog) (w.alloc (.cells #[] 40)) w.heap.size 37 37 40 i0 (.agg #[.int .i64 0, .int .i64 0]) 2 16 Try.underlying37 hi hz0 hz1 hz2 rfl (by omega) (some ⟨w.heap.size, 0, none⟩) 0 0 [] hown a n c (PV l) (by rw [length_PV, hl]) hcell (PV_one _) (.inr (by simp)) (by unfold maxLen; omega) (by omega) (by simp)
    rw [app_hide] at hrun
    rw [Nat.zero_add] at hrun hown2
    clear hcell h hA hnil hown
    go_enter Try.func23, Try.ntmps23
    go_wp2_with fail
    go_ret
    exact ⟨⟨some ⟨g', 0, none⟩, cap', rfl, hown2⟩, ((Only.refl [] w).alloc _).trans ho (by simp [blkOf])⟩

theorem due1_any (pn : Addr) (bn : Nat) (now a m n0 : Int) (w : World) (hp : w.cell? pn = some (.int .i64 now)) (hb : Blk w bn 2 #[.int .i64 n0]) (hs0 : -4398046511104 ≤ n0 + m) (hs1 : n0 + m ≤ 4398046511104) (hpb : pn.block ≠ bn) :
    Calls Try.prog 24 #[.agg #[.int .i64 a, .int .i64 m], .pointer (some pn), .pointer (some ⟨bn, 0, none⟩)] w fun e w' =>
      e = .returned (.bool (decide (a ≤ now))) ∧ Only [bn] w w' ∧ Blk w' bn 2 #[.int .i64 (if a ≤ now then n0 + m else n0)] := by
  have k0 : w.cell? ⟨bn, 0, none⟩ = some (.int .i64 n0) := by simpa using hb.cell 0
  have f0 := hb.frozen 0
  have hlt := hb.lt
  have hplt : pn.block < w.heap.size := World.block_lt_of_cell? w pn hp
  have hbA := hb.alloc (.cells #[.int .i64 a, .int .i64 m] 40)
  have q0 := cell_alloc (.cells #[.int .i64 a, .int .i64 m] 40) hp
  have q1 := cell_alloc (.cells #[.int .i64 a, .int .i64 m] 40) k0
  have q2 : (w.setCell ⟨bn, 0, none⟩ (.int .i64 (n0 + m))).cell? pn = some (.int .i64 now) := by
    rw [World.cell?_setCell_other _ _ _ _ (by intro e; exact hpb (by rw [← e]))]; exact hp
  have q3 := cell_alloc (.cells #[.int .i64 a, .int .i64 m] 40) q2
  have hO : Only [bn] w ((w.setCell ⟨bn, 0, none⟩ (.int .i64 (n0 + m))).alloc (.cells #[.int .i64 a, .int .i64 m] 40)) := ((Only.refl _ w).setCell (.inl (by simp)) _).alloc _
  have hB2 := (hb.set_ 0 (.int .i64 (n0 + m))).alloc (.cells #[.int .i64 a, .int .i64 m] 40)
  by_cases hd : a ≤ now
  · have d : decide (a ≤ now) = true := by simpa using hd
    rw [if_pos hd, d]
    go_enter Try.func24, Try.ntmps24
    go_wp2
    go_ret
    exact ⟨rfl, hO, hB2⟩
  · have d : decide (a ≤ now) = false := by simpa using hd
    rw [if_neg hd, d]
    go_enter Try.func24, Try.ntmps24
    go_wp2
    go_ret
    exact ⟨rfl, (Only.refl _ w).alloc _, hbA⟩

def keep (now : Int) (l : List (Int × Int)) : List (Int × Int) := l.filter fun p => !decide (p.1 ≤ now)
def dsum (now : Int) (l : List (Int × Int)) : Int := psum (l.filter fun p => decide (p.1 ≤ now))
theorem keep_snoc (now : Int) (l : List (Int × Int)) (p : Int × Int) : keep now (l ++ [p]) = keep now l ++ if p.1 ≤ now then [] else [p] := by
  unfold keep
  rw [List.filter_append]
  by_cases h : p.1 ≤ now <;> simp [h]
theorem dsum_snoc (now : Int) (l : List (Int × Int)) (p : Int × Int) : dsum now (l ++ [p]) = dsum now l + if p.1 ≤ now then p.2 else 0 := by
  unfold dsum
  rw [List.filter_append, psum_append]
  by_cases h : p.1 ≤ now <;> simp [h, psum]
theorem keep_len (now : Int) (l : List (Int × Int)) : (keep now l).length ≤ l.length := List.length_filter_le _ _
theorem take_snoc' {α : Type} (l : List α) (k : Nat) (x : α) (h : l[k]? = some x) : l.take (k + 1) = l.take k ++ [x] := by rw [List.take_add_one, h]; rfl

def Found (w : World) (bn : Nat) (now n0 : Int) (l : List (Int × Int)) (e : Ending) (w' : World) : Prop :=
  Only [bn] w w' ∧ ((e = .returned (.int .i64 (-1)) ∧ (∀ p ∈ l, now < p.1) ∧ Blk w' bn 2 #[.int .i64 n0]) ∨
    (∃ (k : Nat) (p : Int × Int), l[k]? = some p ∧ e = .returned (.int .i64 (k : Int)) ∧ (∀ q ∈ l.take k, now < q.1) ∧ p.1 ≤ now ∧ Blk w' bn 2 #[.int .i64 (n0 + p.2)]))

/-- slices.IndexFunc at pieces, asked for the first that is due: the loop as far as none is. -/
theorem index_any (gp n c : Nat) (A : Option Addr) (l : List (Int × Int)) (pn : Addr) (bn : Nat) (now n0 : Int) (w : World) (hl : l.length = n) (hn : n ≤ 16) (h : PSrc w A l) (hp : w.cell? pn = some (.int .i64 now)) (hb : Blk w bn 2 #[.int .i64 n0])
    (hpb : pn.block ≠ bn) (hA : ∀ a, A = some a → a.block ≠ bn) (hs : ∀ p ∈ l, -4398046511104 ≤ n0 + p.2 ∧ n0 + p.2 ≤ 4398046511104) :
    Calls Try.prog 26 #[.slice A n c, .func (.func 24) #[] #[.pointer (some pn), .pointer (some ⟨bn, 0, none⟩)]] w (Found w bn now n0 l) := by
  have HS := hide hs
  have HP := hide h
  have HL := hide hl
  have HA := hide hA
  clear hs h hl hA
  go_enter Try.func26, Try.ntmps26
  go_wp2_with fail
  go_loopw [5, 8] (fun _ i wr => ∃ k : Nat, k ≤ n ∧ i = .int .i64 k ∧ Only [bn] w wr ∧ Blk wr bn 2 #[.int .i64 n0] ∧ ∀ q ∈ l.take k, now < q.1) (fun _ i _ => n - (intOf i).toNat)
  case atStart => exact ⟨0, Nat.zero_le _, rfl, Only.refl _ _, hb, by simp⟩
  case round =>
    obtain ⟨k, hk, rfl, hO, hB, hq⟩ := hrel
    have HQ := hide hq
    clear hq
    by_cases hlt : k < n
    · have hlen := HL.out
      obtain ⟨p, hpk⟩ : ∃ p, l[k]? = some p := ⟨_, List.getElem?_eq_getElem (by omega)⟩
      obtain ⟨g, rfl, hc⟩ := HP.out (by omega)
      obtain ⟨e0, e1⟩ := PV_get l k p hpk
      have hgb : g ≠ bn := HA.out _ rfl
      have q0 : wr.cell? ⟨g, k * 2, none⟩ = some (.int .i64 p.1) := hO.keep ((hc (k * 2) (by omega)).trans e0) (by simpa using hgb)
      have q1 : wr.cell? ⟨g, k * 2 + 1, none⟩ = some (.int .i64 p.2) := hO.keep ((hc (k * 2 + 1) (by omega)).trans e1) (by simpa using hgb)
      have qp : wr.cell? pn = some (.int .i64 now) := hO.keep hp (by simpa using hpb)
      have hsp := HS.out p (List.mem_of_getElem? hpk)
      have HPK := hide hpk
      have HLEN := hide hlen
      clear hlen hpk hc e0 e1
      by_cases hd : p.1 ≤ now
      · go_wp2_with (go_at_call 24; refine (due1_any pn bn now p.1 p.2 n0 _ qp hB hsp.1 hsp.2 hpb).mono ?_; rw [if_pos hd, decide_eq_true hd]; rintro e w2 ⟨rfl, ho2, hB2⟩)
        go_ret
        exact ⟨hO.trans' ho2, .inr ⟨k, p, HPK.out, rfl, HQ.out, hd, hB2⟩⟩
      · go_wp2_with (go_at_call 24; refine (due1_any pn bn now p.1 p.2 n0 _ qp hB hsp.1 hsp.2 hpb).mono ?_; rw [if_neg hd, decide_eq_false hd]; rintro e w2 ⟨rfl, ho2, hB2⟩)
        go_roundw
        case rel =>
          refine ⟨k + 1, by omega, by go_num, hO.trans' ho2, hB2, ?_⟩
          rw [take_snoc' l k p HPK.out]
          intro q hq
          rcases List.mem_append.1 hq with hq | hq
          · exact HQ.out q hq
          · simp at hq; subst hq; omega
        case measure => simp [intOf]; omega
    · go_wp2
      go_ret
      obtain rfl : k = n := by omega
      refine ⟨hO, .inl ⟨rfl, ?_, hB⟩⟩
      have := HQ.out
      rwa [List.take_of_length_le (by rw [HL.out]; exact Nat.le_refl _)] at this
end Go.Proofs.Ytidllhnldhnoeaa
