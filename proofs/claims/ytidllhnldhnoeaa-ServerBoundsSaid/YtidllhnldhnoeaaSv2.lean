/- Walks over sporadic: stop, Use, Stop, Clone, Pieces. -/
import Derived.Test.YtidllhnldhnoeaaSv1
import Derived.StillTailTactics
import Derived.BigRegion
namespace Go.Proofs.Ytidllhnldhnoeaa
open Go.RowKit
set_option linter.unusedVariables false
set_option linter.all false
attribute [local go_sem ↓] app_hide

theorem piece_info : (Try.prog.info? 40).map (fun i => (i.zero, i.size, i.bytes)) = some (some (.agg #[.int .i64 0, .int .i64 0]), 2, 16) := by kernel_rfl

def sStop (s : SS) (least : Int) : SS := { s with active := false, since := 0, used := 0, ps := if 0 < s.used then s.ps ++ [(max least (s.since + s.period), s.used)] else s.ps }

theorem psum_append (a b : List (Int × Int)) : psum (a ++ b) = psum a + psum b := by
  induction a with
  | nil => simp [psum]
  | cons x a ih => simp only [List.cons_append, psum, ih]; omega

theorem good_stop {s : SS} (h : Good s) (least : Int) (h0 : 0 ≤ least) (h1 : least ≤ 1099511627776) : Good (sStop s least) := by
  have ht := h.total
  have hs := h.s0
  have hp := h.pm
  have hb := h.b1
  have hbp := h.bp
  unfold sStop
  by_cases hu : 0 < s.used
  · rw [if_pos hu]
    have hr := h.room hu
    refine ⟨h.b1, h.bp, h.pm, h.m1, h.m16, h.l0, Int.le_refl _, ?_, ?_, ?_, by simp, by simp, ?_, by simp⟩
    · simp only [psum_append, psum]; omega
    · intro p hp
      simp only [List.mem_append, List.mem_singleton] at hp
      rcases hp with hp | rfl
      · exact h.amt p hp
      · simp only; omega
    · intro p hp'
      simp only [List.mem_append, List.mem_singleton] at hp'
      rcases hp' with hp' | rfl
      · exact h.due p hp'
      · simp only; omega
    · simp only [List.length_append, List.length_singleton]; omega
  · rw [if_neg hu]
    have := h.u0
    exact ⟨h.b1, h.bp, h.pm, h.m1, h.m16, h.l0, Int.le_refl _, by simp only; omega, h.amt, h.due, by simp, by simp, h.len, by simp⟩

/-- Behind a call: the server is s', its pieces at the old place or a new one. -/
def Left (w w' : World) (B g : Nat) (A : Option Addr) (s' : SS) : Prop := ∃ A' c', Sv w' B g A' c' s' ∧ ∀ k ∈ blkOf A', k ∈ blkOf A ∨ w.heap.size ≤ k

set_option maxHeartbeats 8000000 in
theorem stop_any {B g c : Nat} {A : Option Addr} {s : SS} {w : World} (least : Int) (h : Sv w B g A c s) (h0 : 0 ≤ least) (h1 : least ≤ 1099511627776) (hB : B ≤ w.heap.size) :
    Calls Try.prog 21 #[.pointer (some ⟨g, 0, none⟩), .int .i64 least] w fun e w' => e = .returned (.tuple #[]) ∧ Only (g :: blkOf A) w w' ∧ Left w w' B g A (sStop s least) := by
  obtain ⟨k0, k1, k2, k3, k4, k5, k6, k7⟩ := h.cells
  have f4 := h.hdr.frozen 4
  have f5 := h.hdr.frozen 5
  have f6 := h.hdr.frozen 6
  have f7 := h.hdr.frozen 7
  have hg := h.hdr.lt
  have hgood := hide (good_stop h.good least h0 h1)
  have hs0 := h.good.s0.1
  have hs1 := h.good.s0.2
  have hp1 := h.good.pm
  have hp0 : 1 ≤ s.period := by have := h.good.b1; have := h.good.bp; omega
  have hlen := h.good.len
  have hm := h.good.m16
  have H := hide h
  clear h
  by_cases hu : 0 < s.used
  · obtain ⟨i0, hi, hz0, hz1, hz2⟩ := info_parts piece_info
    obtain ⟨at_, hat⟩ : ∃ x, Hid (x = max least (s.since + s.period)) := ⟨_, hide rfl⟩
    have hmax : (if least < s.since + s.period then s.since + s.period else least) = at_ := by rw [hat.out]; split <;> omega
    obtain ⟨g', cap', w2, hrun, hown, ho, hgg⟩ := append_at (P := Try.prog) ((w.alloc (.cells #[.int .i64 at_, .int .i64 s.used] 40)).drew) B 37 37 40 i0 (.agg #[.int .i64 0, .int .i64 0]) 2 16 Try.underlying37 hi hz0 hz1 hz2 rfl (by omega) A s.ps.length c (PV s.ps) (H.out.row.alloc _)
      ⟨w.heap.size, 0, none⟩ 1 1 (PV [(at_, s.used)]) rfl (fun j u hj => by
        have := (Blk.new w 40 #[.int .i64 at_, .int .i64 s.used]).drew.cell j
        rw [add_mk, Nat.zero_add, this, List.getElem?_toArray]
        exact hj) (PV_one _) (.inl (by omega)) (by unfold maxLen; omega) (by omega) (by simp; omega)
    rw [app_hide] at hrun
    have hgg' : g ∉ blkOf A := H.out.ne
    have hb2 := (H.out.hdr.alloc (.cells #[.int .i64 at_, .int .i64 s.used] 40)).drew.only ho hgg'
    have z7 := hb2.frozen 7
    have t7 : w2.cell? ⟨g, 7, none⟩ = some (.slice A s.ps.length c) := (by rw [hb2.cell]; rfl)
    have hg2 := hb2.lt
    have HH := hide hgg
    have HGG := hide hgg'
    clear hgg hgg'
    have z4 := hb2.frozen 4
    have z5 := hb2.frozen 5
    have z6 := hb2.frozen 6
    have t4 : w2.cell? ⟨g, 4, none⟩ = some (.bool s.active) := (by rw [hb2.cell]; rfl)
    have t5 : w2.cell? ⟨g, 5, none⟩ = some (.int .i64 s.since) := (by rw [hb2.cell]; rfl)
    have t6 : w2.cell? ⟨g, 6, none⟩ = some (.int .i64 s.used) := (by rw [hb2.cell]; rfl)
    have hwr : IntKind.i64.wrap (s.since + s.period) = s.since + s.period := IntWalk.i64_in _ (by omega)
    go_enter Try.func21, Try.ntmps21
    go_wp2_with fail
    go_region
    go_wp2
    go_end0
    have hb3 := (((hb2.set_ 7 (.slice (some ⟨g', 0, none⟩) (s.ps.length + 1) cap')).set_ 4 (.bool false)).set_ 5 (.int .i64 0)).set_ 6 (.int .i64 0)
    have hOr : Only [g] w2 ((((w2.setCell ⟨g, 7, none⟩ (.slice (some ⟨g', 0, none⟩) (s.ps.length + 1) cap')).setCell ⟨g, 4, none⟩ (.bool false)).setCell ⟨g, 5, none⟩ (.int .i64 0)).setCell ⟨g, 6, none⟩ (.int .i64 0)) :=
      ((((Only.refl _ w2).setCell (.inl (by simp)) _).setCell (.inl (by simp)) _).setCell (.inl (by simp)) _).setCell (.inl (by simp)) _
    have hO2 : Only (g :: blkOf A) w w2 := ((Only.refl _ w).alloc _).drew.trans ho (fun x hx => .inl (List.mem_cons_of_mem _ hx))
    have hgne : g' ≠ g := by
      rintro rfl
      exact own_ne hown hb2 (by decide) (by simp [blkOf])
    refine ⟨rfl, hO2.trans hOr (fun x hx => .inl (by simp at hx; simp [hx])), ⟨some ⟨g', 0, none⟩, cap', ?_, ?_⟩⟩
    · have hgd := hgood.out
      unfold sStop at hgd ⊢
      rw [if_pos hu, ← hat.out] at hgd
      rw [if_pos hu, ← hat.out]
      refine ⟨?_, ?_, hgd, H.out.ge⟩
      · have e : (s.ps ++ [(at_, s.used)]).length = s.ps.length + 1 := by simp
        unfold hdrV
        simp only [e]
        exact hb3
      · have e : (s.ps ++ [(at_, s.used)]).length = s.ps.length + 1 := by simp
        simp only [e, PV_append]
        exact own_only' hown hOr (fun k hk => by simp [blkOf] at hk; subst hk; simpa using hgne)
    · intro k hk
      simp only [blkOf, List.mem_singleton] at hk
      subst hk
      rcases HH.out with e | e
      · exact .inl e
      · exact .inr (by rw [e]; simp)
  · have hgood' := hgood.out
    unfold sStop at hgood'
    rw [if_neg hu] at hgood'
    have HG := hide hgood'
    clear hgood' hgood
    go_enter Try.func21, Try.ntmps21
    go_wp2_with fail
    go_end0
    have hb' := ((H.out.hdr.set_ 4 (.bool false)).set_ 5 (.int .i64 0)).set_ 6 (.int .i64 0)
    have hO : Only (g :: blkOf A) w (((w.setCell ⟨g, 4, none⟩ (.bool false)).setCell ⟨g, 5, none⟩ (.int .i64 0)).setCell ⟨g, 6, none⟩ (.int .i64 0)) := (((Only.refl _ w).setCell (.inl (by simp)) _).setCell (.inl (by simp)) _).setCell (.inl (by simp)) _
    have hO1 : Only [g] w (((w.setCell ⟨g, 4, none⟩ (.bool false)).setCell ⟨g, 5, none⟩ (.int .i64 0)).setCell ⟨g, 6, none⟩ (.int .i64 0)) := (((Only.refl _ w).setCell (.inl (by simp)) _).setCell (.inl (by simp)) _).setCell (.inl (by simp)) _
    refine ⟨rfl, hO, ⟨A, c, ?_, fun k hk => .inl hk⟩⟩
    unfold sStop
    rw [if_neg (by omega)]
    exact ⟨hb', own_only' H.out.row hO1 (fun k hk => by simp; rintro rfl; exact H.out.ne hk), HG.out, H.out.ge⟩

def sUse (s : SS) : SS × (Bool × Int) :=
  if s.active && high s then
    (if 0 < s.left - 1 then ({ s with left := s.left - 1, used := s.used + 1 }, (false, 0)) else (sStop { s with left := s.left - 1, used := s.used + 1 } 0, (true, 0)))
  else (s, (false, 7))

theorem good_used {s : SS} (h : Good s) (ha : s.active = true) (hh : high s = true) : Good { s with left := s.left - 1, used := s.used + 1 } := by
  simp only [high, Bool.and_eq_true, decide_eq_true_eq] at hh
  exact ⟨h.b1, h.bp, h.pm, h.m1, h.m16, by simp only; omega, by have := h.u0; simp only; omega, by have := h.total; simp only; omega, h.amt, h.due, h.s0, by simp [ha], h.len, fun _ => hh.2⟩

theorem psum_nonneg {l : List (Int × Int)} (h : ∀ p ∈ l, 1 ≤ p.2) : 0 ≤ psum l := by
  induction l with
  | nil => simp [psum]
  | cons a l ih =>
    have h1 := h a (by simp)
    have h2 := ih fun p hp => h p (by simp [hp])
    simp only [psum]; omega

/-- A server's call: what it returns, what it leaves. -/
def After (w : World) (B g : Nat) (A : Option Addr) (s' : SS) (v : Value) (e : Ending) (w' : World) : Prop := e = .returned v ∧ Only (g :: blkOf A) w w' ∧ Left w w' B g A s'

theorem Left.same {w w' : World} {B g c : Nat} {A : Option Addr} {s : SS} (h : Sv w' B g A c s) : Left w w' B g A s := ⟨A, c, h, fun _ hk => .inl hk⟩

set_option maxHeartbeats 1000000 in
theorem use_any {B g c : Nat} {A : Option Addr} {s : SS} {w : World} (h : Sv w B g A c s) (hB : B ≤ w.heap.size) :
    Calls Try.prog 9 #[.pointer (some ⟨g, 0, none⟩)] w (After w B g A (sUse s).1 (.tuple #[.bool (sUse s).2.1, .int .i64 (sUse s).2.2])) := by
  obtain ⟨k0, k1, k2, k3, k4, k5, k6, k7⟩ := h.cells
  have hb : 0 < s.budget := by have := h.good.b1; omega
  have f3 := h.hdr.frozen 3
  have f6 := h.hdr.frozen 6
  have hgood := h.good
  have hbb : s.budget ≤ 1099511627776 := by have := hgood.bp; have := hgood.pm; omega
  have hlb : s.left ≤ s.budget := by have := hgood.total; have := psum_nonneg hgood.amt; have := hgood.u0; omega
  have hub : s.used ≤ s.budget := by have := hgood.total; have := psum_nonneg hgood.amt; have := hgood.l0; omega
  have hl0 := hgood.l0
  have hu0 := hgood.u0
  unfold sUse
  by_cases ha : s.active = true
  rotate_left
  · have ha' : s.active = false := by simpa using ha
    rw [ha'] at k4
    rw [if_neg (by rw [ha']; simp)]
    have H := hide h
    clear h hgood ha ha'
    go_enter Try.func9, Try.ntmps9
    go_wp2_with (go_at_call 19; refine (is_yes _ _ _ k0 hb).mono ?_; rintro e w' ⟨rfl, rfl⟩)
    go_ret2
    exact ⟨rfl, Only.refl _ _, Left.same H.out⟩
  · rw [ha] at k4
    by_cases hh' : high s = true
    rotate_left
    · have hh : high s = false := by simpa using hh'
      clear hh'
      rw [if_neg (by rw [hh]; simp)]
      have H := hide h
      have HH := hide hh
      clear h hgood ha hh
      go_enter Try.func9, Try.ntmps9
      go_wp2_with (first
        | (go_at_call 19; refine (is_yes _ _ _ k0 hb).mono ?_; rintro e w' ⟨rfl, rfl⟩)
        | (go_at_call 15; refine (high_any H.out).mono ?_; rw [HH.out]; rintro e w' ⟨rfl, k, rfl⟩))
      go_ret2
      exact ⟨rfl, (Only.refl _ _).drewN k, Left.same (H.out.only0 ((Only.refl _ _).drewN k))⟩
    · have hh := hh'
      clear hh'
      rw [if_pos (by rw [ha, hh]; rfl)]
      have hg2 := hide (good_used hgood ha hh)
      have H := hide h
      have HH := hide hh
      have HA := hide ha
      have hl1 : 1 ≤ s.left := by simp only [high, Bool.and_eq_true, decide_eq_true_eq] at hh; omega
      clear h hgood ha hh
      have hO : ∀ k, Only [g] w (((w.drewN k).setCell ⟨g, 3, none⟩ (.int .i64 (s.left - 1))).setCell ⟨g, 6, none⟩ (.int .i64 (s.used + 1))) := fun k => (((Only.refl _ w).drewN k).setCell (.inl (by simp)) _).setCell (.inl (by simp)) _
      have hS : ∀ k, Sv (((w.drewN k).setCell ⟨g, 3, none⟩ (.int .i64 (s.left - 1))).setCell ⟨g, 6, none⟩ (.int .i64 (s.used + 1))) B g A c { s with left := s.left - 1, used := s.used + 1 } := fun k =>
        ⟨((H.out.hdr.drewN k).set_ 3 (.int .i64 (s.left - 1))).set_ 6 (.int .i64 (s.used + 1)), own_only' H.out.row (hO k) (fun x hx => by simp; rintro rfl; exact H.out.ne hx), hg2.out, H.out.ge⟩
      have HO := hide hO
      have HS := hide hS
      clear hO hS
      by_cases hz : 0 < s.left - 1
      · rw [if_pos hz]
        go_enter Try.func9, Try.ntmps9
        go_wp2_with (first
          | (go_at_call 19; refine (is_yes _ _ _ k0 hb).mono ?_; rintro e w' ⟨rfl, rfl⟩)
          | (go_at_call 15; refine (high_any H.out).mono ?_; rw [HH.out]; rintro e w' ⟨rfl, k, rfl⟩))
        go_ret2
        exact ⟨rfl, (HO.out k).mono (fun x hx => .inl (by simp at hx; simp [hx])), Left.same (HS.out k)⟩
      · rw [if_neg hz]
        go_enter Try.func9, Try.ntmps9
        go_wp2_with (first
          | (go_at_call 19; refine (is_yes _ _ _ k0 hb).mono ?_; rintro e w' ⟨rfl, rfl⟩)
          | (go_at_call 15; refine (high_any H.out).mono ?_; rw [HH.out]; rintro e w' ⟨rfl, k, rfl⟩)
          | (go_at_call 21; refine (stop_any 0 (HS.out k) (by omega) (by omega) (by simpa using hB)).mono ?_; rintro e w2 ⟨rfl, ho2, hl2⟩))
        go_ret2
        refine ⟨rfl, ((HO.out k).mono (fun x hx => .inl (by simp at hx; simp [hx]))).trans' ho2, ?_⟩
        obtain ⟨A', c', hs', hk'⟩ := hl2
        exact ⟨A', c', hs', fun x hx => (hk' x hx).imp id (fun h => by simpa using h)⟩

def sStopAt (s : SS) (now : Int) : SS × Int :=
  if 0 ≤ now ∧ now ≤ 1099511627776 then (if s.active then (sStop s now, 0) else (s, 7)) else (s, 2)

set_option maxHeartbeats 1000000 in
theorem stopAt_any {B g c : Nat} {A : Option Addr} {s : SS} {w : World} (now : Int) (h : Sv w B g A c s) (hB : B ≤ w.heap.size) :
    Calls Try.prog 10 #[.pointer (some ⟨g, 0, none⟩), .int .i64 now] w (After w B g A (sStopAt s now).1 (.int .i64 (sStopAt s now).2)) := by
  obtain ⟨k0, k1, k2, k3, k4, k5, k6, k7⟩ := h.cells
  have hb : 0 < s.budget := by have := h.good.b1; omega
  have H := hide h
  clear h
  unfold sStopAt
  by_cases hn : 0 ≤ now ∧ now ≤ 1099511627776
  · have d0 : decide (0 ≤ now) = true := by simpa using hn.1
    have d1 : decide (now ≤ 1099511627776) = true := by simpa using hn.2
    simp only [if_pos hn]
    have HN := hide hn
    clear hn
    cases ha : s.active with
    | false =>
      rw [ha] at k4
      simp only [Bool.false_eq_true, if_false]
      clear ha
      go_enter Try.func10, Try.ntmps10
      go_wp2_with (first
        | (go_at_call 19; refine (is_yes _ _ _ k0 hb).mono ?_; rintro e w' ⟨rfl, rfl⟩)
        | (go_at_call 20; refine (time_any _ _).mono ?_; rintro e w' ⟨rfl, rfl⟩))
      go_ret
      exact ⟨rfl, Only.refl _ _, Left.same H.out⟩
    | true =>
      rw [ha] at k4
      simp only [if_true]
      clear ha
      go_enter Try.func10, Try.ntmps10
      go_wp2_with (first
        | (go_at_call 19; refine (is_yes _ _ _ k0 hb).mono ?_; rintro e w' ⟨rfl, rfl⟩)
        | (go_at_call 20; refine (time_any _ _).mono ?_; rintro e w' ⟨rfl, rfl⟩)
        | (go_at_call 21; refine (stop_any now H.out HN.out.1 HN.out.2 hB).mono ?_; rintro e w2 ⟨rfl, ho2, hl2⟩))
      go_ret
      exact ⟨rfl, ho2, hl2⟩
  · have d0 : (decide (0 ≤ now) && decide (now ≤ 1099511627776)) = false := by simp; omega
    simp only [if_neg hn]
    clear hn
    go_enter Try.func10, Try.ntmps10
    go_wp2_with (first
      | (go_at_call 19; refine (is_yes _ _ _ k0 hb).mono ?_; rintro e w' ⟨rfl, rfl⟩)
      | (go_at_call 20; refine (time_any _ _).mono ?_; rintro e w' ⟨rfl, rfl⟩))
    go_ret
    exact ⟨rfl, Only.refl _ _, Left.same H.out⟩
end Go.Proofs.Ytidllhnldhnoeaa
