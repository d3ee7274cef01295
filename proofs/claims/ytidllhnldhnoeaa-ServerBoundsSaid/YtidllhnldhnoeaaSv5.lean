/- Walks over sporadic: Due, Pieces. -/
import Derived.Test.YtidllhnldhnoeaaSv4
namespace Go.Proofs.Ytidllhnldhnoeaa
open Go.RowKit
set_option linter.unusedVariables false
set_option linter.all false
attribute [local go_sem ↓] app_hide clear_hide

def sDue (s : SS) (now : Int) : SS := { s with left := s.left + dsum now s.ps, ps := keep now s.ps }

theorem psum_split (now : Int) (l : List (Int × Int)) : psum (keep now l) + dsum now l = psum l := by
  induction l with
  | nil => rfl
  | cons a l ih =>
    simp only [keep, dsum, psum] at *
    rw [List.filter_cons, List.filter_cons]
    by_cases h : a.1 ≤ now <;> simp only [h, decide_true, decide_false, Bool.not_true, Bool.not_false, if_true, if_false, Bool.false_eq_true, psum] <;> omega
theorem good_due {s : SS} (h : Good s) (now : Int) : Good (sDue s now) := by
  have hs := psum_split now s.ps
  have ht := h.total
  have hd := (dsum_le now s.ps.length h.amt).1
  rw [List.take_length] at hd
  have hk := keep_len now s.ps
  have hlen := h.len
  exact ⟨h.b1, h.bp, h.pm, h.m1, h.m16, by have := h.l0; simp only [sDue]; omega, h.u0, by simp only [sDue]; omega, fun p hp => h.amt p (List.mem_filter.1 hp).1, fun p hp => h.due p (List.mem_filter.1 hp).1, h.s0, h.off,
    by simp only [sDue]; omega, fun hu => by have := h.room hu; simp only [sDue]; omega⟩

theorem Sv.addr {w : World} {B g c : Nat} {A : Option Addr} {s : SS} (h : Sv w B g A c s) : (A = none → s.ps.length = 0 ∧ c = 0) ∧ ∀ a, A = some a → a.block < w.heap.size := by
  constructor
  · rintro rfl
    rcases h.row.2 with ⟨hv, hn⟩ | ⟨g', cap', cur, hv, _⟩
    · simp only [Value.slice.injEq, true_and] at hv; omega
    · simp at hv
  · rintro a rfl
    exact (h.row.lt a.block rfl).2

theorem pieces_any {B g c : Nat} {A : Option Addr} {s : SS} {w : World} (h : Sv w B g A c s) :
    Calls Try.prog 14 #[.pointer (some ⟨g, 0, none⟩)] w fun e w' => (∃ A' c', e = .returned (.slice A' s.ps.length c') ∧ w'.ownsRow w.heap.size 40 2 (.slice A' s.ps.length c') s.ps.length (PV s.ps)) ∧ Only [] w w' := by
  obtain ⟨k0, k1, k2, k3, k4, k5, k6, k7⟩ := h.cells
  have hb : 0 < s.budget := by have := h.good.b1; omega
  have hn : s.ps.length ≤ 16 := by have := h.good.len; have := h.good.m16; omega
  have H := hide h
  clear h
  go_enter Try.func14, Try.ntmps14
  go_wp2_with (first
    | (go_at_call 19; refine (is_yes _ _ _ k0 hb).mono ?_; rintro e w' ⟨rfl, rfl⟩)
    | (go_at_call 23; refine (clone_any A _ c s.ps _ rfl hn H.out.addr.1 (PSrc.own H.out.row) H.out.addr.2).mono ?_; rintro e w2 ⟨⟨A', c', rfl, hown⟩, ho⟩))
  go_ret
  exact ⟨⟨A', c', rfl, hown⟩, ho⟩

set_option maxHeartbeats 1000000 in
theorem due_any {B g c : Nat} {A : Option Addr} {s : SS} {w : World} (now : Int) (h : Sv w B g A c s) (hB : B ≤ w.heap.size) :
    Calls Try.prog 11 #[.pointer (some ⟨g, 0, none⟩), .int .i64 now] w (After w B g A (sDue s now) (.int .i64 (dsum now s.ps))) := by
  obtain ⟨k0, k1, k2, k3, k4, k5, k6, k7⟩ := h.cells
  have hb : 0 < s.budget := by have := h.good.b1; omega
  have hn : s.ps.length ≤ 16 := by have := h.good.len; have := h.good.m16; omega
  have hg := h.hdr.lt
  have hgA := h.ne
  have H := hide h
  have HG := hide hgA
  clear h hgA
  have hgd := H.out.good
  have hbb : s.budget ≤ 1099511627776 := by have := hgd.bp; have := hgd.pm; omega
  have hds := dsum_le now s.ps.length hgd.amt
  rw [List.take_length] at hds
  have hds0 := hds.1
  have htot := hgd.total
  have hpl : psum s.ps ≤ s.budget := by have := hgd.l0; have := hgd.u0; omega
  have hd1 : dsum now s.ps ≤ 1099511627776 := by omega
  have hl0 := hgd.l0
  have hl1 : s.left ≤ 1099511627776 := by have := hgd.u0; have := psum_nonneg hgd.amt; omega
  have HGD := hide hgd
  clear hgd htot hds
  go_enter Try.func11, Try.ntmps11
  go_wp2_with (go_at_call 19; refine (is_yes _ _ _ (cell_alloc _ k0) hb).mono ?_; rintro e w' ⟨rfl, rfl⟩)
  have hO0 : Only [] w ((w.alloc (.cells #[.int .i64 now] 2)).alloc (.cells #[.int .i64 0] 2)) := ((Only.refl _ w).alloc _).alloc _
  have hS0 := H.out.only0 hO0
  refine (clone_any A _ c s.ps _ rfl hn hS0.addr.1 (PSrc.own hS0.row) hS0.addr.2).mono ?_
  rintro e w1 ⟨⟨A1, c1, rfl, hown1⟩, ho1⟩
  simp only [World.size_alloc] at hown1
  have hp1 : w1.cell? ⟨w.heap.size, 0, none⟩ = some (.int .i64 now) := ho1.keep0 (by simpa using ((Blk.new w 2 #[.int .i64 now]).alloc (.cells #[.int .i64 0] 2)).cell 0)
  have hn1 : Blk w1 (w.heap.size + 1) 2 #[.int .i64 0] := by simpa using (Blk.new (w.alloc (.cells #[.int .i64 now] 2)) 2 #[.int .i64 0]).only ho1 (by simp)
  have hS1 := hS0.only0 ho1
  have hA1 := own_ge hown1
  go_wp2_with fail
  refine (delete_any _ _ c1 A1 s.ps ⟨w.heap.size, 0, none⟩ (w.heap.size + 1) now 0 _ rfl hn hown1 hp1 hn1 (by simp) (fun hm => by have := (hA1 _ hm).1; simp at this; omega) HGD.out.amt (Int.le_refl _) (by omega)).mono ?_
  rintro e w2 ⟨c2, rfl, hown2, ho2, hn2⟩
  rw [Int.zero_add] at hn2
  have hgn : g ∉ (w.heap.size + 1) :: blkOf A1 := by
    intro hm
    rcases List.mem_cons.1 hm with e | hm
    · omega
    · have := (hA1 _ hm).1; omega
  have hS2 := hS1.hdr.only ho2 hgn
  have t7 : w2.cell? ⟨g, 7, none⟩ = some (.slice A s.ps.length c) := by rw [hS2.cell]; rfl
  have t3 : w2.cell? ⟨g, 3, none⟩ = some (.int .i64 s.left) := by rw [hS2.cell]; rfl
  have z7 := hS2.frozen 7
  have z3 := hS2.frozen 3
  have tn : w2.cell? ⟨w.heap.size + 1, 0, none⟩ = some (.int .i64 (dsum now s.ps)) := by rw [hn2.cell]; rfl
  have hg2 := hS2.lt
  have hgne : g ≠ w.heap.size + 1 := by omega
  clear hp1 hn1 hS0 hS1 hown1
  go_wp2_with fail
  go_region
  go_wp2
  go_ret
  have hb3 := (hS2.set_ 7 (.slice A1 (keep now s.ps).length c2)).drew.set_ 3 (.int .i64 (s.left + dsum now s.ps))
  have hOr : Only [g] w2 (((w2.setCell ⟨g, 7, none⟩ (.slice A1 (keep now s.ps).length c2)).drew).setCell ⟨g, 3, none⟩ (.int .i64 (s.left + dsum now s.ps))) := (((Only.refl _ w2).setCell (.inl (by simp)) _).drew).setCell (.inl (by simp)) _
  have hgA1 : g ∉ blkOf A1 := fun hm => hgn (List.mem_cons_of_mem _ hm)
  refine ⟨rfl, ?_, ⟨A1, c2, ⟨hb3, own_only' (own_mono hown2 (by omega)) hOr (fun k hk => by simp; rintro rfl; exact hgA1 hk), good_due HGD.out now, H.out.ge⟩, fun k hk => .inr (by have := (hA1 k hk).1; omega)⟩⟩
  refine ((((hO0.mono (by simp)).trans0 ho1).trans ho2 ?_).trans hOr (by simp))
  intro k hk
  rcases List.mem_cons.1 hk with e | hk
  · exact .inr (by omega)
  · exact .inr (by have := (hA1 k hk).1; omega)
end Go.Proofs.Ytidllhnldhnoeaa
