/- Walks over sporadic: is, time, New, Start, High, Left, Active. -/
import Derived.Test.YtidllhnldhnoeaaProg
import Derived.Test.YtidllhnldhnoeaaMore
import Derived.Deep.RegionHeld3
namespace Go.Proofs.Ytidllhnldhnoeaa
open Go.RowKit
set_option linter.unusedVariables false
set_option linter.all false

/-- What a server is. -/
structure SS where
  budget : Int
  period : Int
  most : Int
  left : Int
  active : Bool
  since : Int
  used : Int
  ps : List (Int × Int)

def psum : List (Int × Int) → Int
  | [] => 0
  | p :: r => p.2 + psum r

structure Good (s : SS) : Prop where
  b1 : 1 ≤ s.budget
  bp : s.budget ≤ s.period
  pm : s.period ≤ 1099511627776
  m1 : 1 ≤ s.most
  m16 : s.most ≤ 16
  l0 : 0 ≤ s.left
  u0 : 0 ≤ s.used
  total : s.left + s.used + psum s.ps = s.budget
  amt : ∀ p ∈ s.ps, 1 ≤ p.2
  due : ∀ p ∈ s.ps, 0 ≤ p.1 ∧ p.1 ≤ 2199023255552
  s0 : 0 ≤ s.since ∧ s.since ≤ 1099511627776
  off : s.active = false → s.used = 0 ∧ s.since = 0
  len : (s.ps.length : Int) ≤ s.most
  room : 0 < s.used → (s.ps.length : Int) < s.most

def PV (l : List (Int × Int)) : List Value := l.flatMap fun p => [.int .i64 p.1, .int .i64 p.2]
theorem length_PV (l : List (Int × Int)) : (PV l).length = l.length * 2 := by
  induction l with
  | nil => rfl
  | cons a l ih => simp only [PV, List.flatMap_cons, List.length_append, List.length_cons, List.length_nil] at *; omega
theorem PV_one (l : List (Int × Int)) : ∀ u ∈ PV l, u.oneCell' = true := by
  intro u hu
  simp only [PV, List.mem_flatMap] at hu
  obtain ⟨p, _, hu⟩ := hu
  simp at hu
  rcases hu with rfl | rfl <;> rfl
theorem PV_append (a b : List (Int × Int)) : PV (a ++ b) = PV a ++ PV b := by simp [PV]
theorem PV_get (l : List (Int × Int)) (i : Nat) (p : Int × Int) (h : l[i]? = some p) : (PV l)[i * 2]? = some (.int .i64 p.1) ∧ (PV l)[i * 2 + 1]? = some (.int .i64 p.2) := by
  induction l generalizing i with
  | nil => simp at h
  | cons a l ih =>
    rcases i with _ | i
    · simp at h
      subst h
      simp [PV]
    · simp at h
      have := ih i h
      simp only [PV, List.flatMap_cons, Nat.succ_mul] at *
      constructor
      · rw [show i * 2 + 2 = i * 2 + 1 + 1 from rfl, List.cons_append, List.getElem?_cons_succ, List.cons_append, List.getElem?_cons_succ]; exact this.1
      · rw [show i * 2 + 2 + 1 = i * 2 + 1 + 1 + 1 from rfl, List.cons_append, List.getElem?_cons_succ, List.cons_append, List.getElem?_cons_succ]; exact this.2

def hdrV (s : SS) (A : Option Addr) (c : Nat) : Array Value := #[.int .i64 s.budget, .int .i64 s.period, .int .i64 s.most, .int .i64 s.left, .bool s.active, .int .i64 s.since, .int .i64 s.used, .slice A s.ps.length c]

/-- A server in memory: its header in block g, its pieces at A; all its blocks from B on. -/
structure Sv (w : World) (B g : Nat) (A : Option Addr) (c : Nat) (s : SS) : Prop where
  hdr : Blk w g 46 (hdrV s A c)
  row : w.ownsRow B 40 2 (.slice A s.ps.length c) s.ps.length (PV s.ps)
  good : Good s
  ge : B ≤ g

section
variable {w w' : World} {B g c : Nat} {A : Option Addr} {s : SS} {S : List Nat}
theorem Sv.only (h : Sv w B g A c s) (ho : Only S w w') (h1 : g ∉ S) (h2 : ∀ k ∈ blkOf A, k ∉ S) : Sv w' B g A c s := ⟨h.hdr.only ho h1, own_only' h.row ho h2, h.good, h.ge⟩
theorem Sv.only0 (h : Sv w B g A c s) (ho : Only [] w w') : Sv w' B g A c s := h.only ho (by simp) (by simp)
theorem Sv.ne (h : Sv w B g A c s) : g ∉ blkOf A := own_ne h.row h.hdr (by decide)
theorem Sv.cells (h : Sv w B g A c s) : w.cell? ⟨g, 0, none⟩ = some (.int .i64 s.budget) ∧ w.cell? ⟨g, 1, none⟩ = some (.int .i64 s.period) ∧ w.cell? ⟨g, 2, none⟩ = some (.int .i64 s.most) ∧ w.cell? ⟨g, 3, none⟩ = some (.int .i64 s.left) ∧
    w.cell? ⟨g, 4, none⟩ = some (.bool s.active) ∧ w.cell? ⟨g, 5, none⟩ = some (.int .i64 s.since) ∧ w.cell? ⟨g, 6, none⟩ = some (.int .i64 s.used) ∧ w.cell? ⟨g, 7, none⟩ = some (.slice A s.ps.length c) := by
  refine ⟨?_, ?_, ?_, ?_, ?_, ?_, ?_, ?_⟩ <;> rw [h.hdr.cell] <;> rfl
end

theorem is_yes (g : Nat) (b : Int) (w : World) (hc : w.cell? ⟨g, 0, none⟩ = some (.int .i64 b)) (hb : 0 < b) :
    Calls Try.prog 19 #[.pointer (some ⟨g, 0, none⟩)] w fun e w' => e = .returned (.bool true) ∧ w = w' := by
  go_enter Try.func19, Try.ntmps19
  go_wp2
  go_ret
  exact ⟨rfl, rfl⟩

/-- No server, or a zero one. -/
def Gone (w : World) (p : Option Addr) : Prop := p = none ∨ ∃ g, p = some ⟨g, 0, none⟩ ∧ w.cell? ⟨g, 0, none⟩ = some (.int .i64 0)
theorem Gone.only0 {w w' : World} {p : Option Addr} (h : Gone w p) (ho : Only [] w w') : Gone w' p := by
  rcases h with rfl | ⟨g, rfl, hc⟩
  · exact .inl rfl
  · exact .inr ⟨g, rfl, ho.keep0 hc⟩
theorem is_no (p : Option Addr) (w : World) (h : Gone w p) : Calls Try.prog 19 #[.pointer p] w fun e w' => e = .returned (.bool false) ∧ w = w' := by
  rcases h with rfl | ⟨g, rfl, hc⟩
  · go_enter Try.func19, Try.ntmps19
    go_wp2
    go_ret
    exact ⟨rfl, rfl⟩
  · go_enter Try.func19, Try.ntmps19
    go_wp2
    go_ret
    exact ⟨rfl, rfl⟩

theorem time_any (n : Int) (w : World) : Calls Try.prog 20 #[.int .i64 n] w fun e w' => e = .returned (.bool (decide (0 ≤ n) && decide (n ≤ 1099511627776))) ∧ w = w' := by
  by_cases h : 0 ≤ n
  · have d : decide (0 ≤ n) = true := by simpa using h
    go_enter Try.func20, Try.ntmps20
    go_wp2
    go_ret
    exact ⟨(by first | rfl | (rw [d]; rfl)), rfl⟩
  · have d : decide (0 ≤ n) = false := by simpa using h
    go_enter Try.func20, Try.ntmps20
    go_wp2
    go_ret
    exact ⟨(by first | rfl | (rw [d]; rfl)), rfl⟩

theorem new_bad (b p m : Int) (w : World) (h : b < 1 ∨ p < b ∨ 1099511627776 < p ∨ m < 1 ∨ 16 < m) :
    Calls Try.prog 6 #[.int .i64 b, .int .i64 p, .int .i64 m] w fun e w' => e = .returned (.tuple #[.pointer none, .int .i64 2]) ∧ w = w' := by
  by_cases h1 : b < 1
  · go_enter Try.func6, Try.ntmps6
    go_wp2
    go_ret2
    exact ⟨rfl, rfl⟩
  · by_cases h2 : p < b
    · go_enter Try.func6, Try.ntmps6
      go_wp2
      go_ret2
      exact ⟨rfl, rfl⟩
    · by_cases h3 : 1099511627776 < p
      · go_enter Try.func6, Try.ntmps6
        go_wp2
        go_ret2
        exact ⟨rfl, rfl⟩
      · by_cases h4 : m < 1
        · go_enter Try.func6, Try.ntmps6
          go_wp2
          go_ret2
          exact ⟨rfl, rfl⟩
        · have h5 : 16 < m := by omega
          go_enter Try.func6, Try.ntmps6
          go_wp2
          go_ret2
          exact ⟨rfl, rfl⟩

def sNew (b p m : Int) : SS := ⟨b, p, m, b, false, 0, 0, []⟩
theorem good_new (b p m : Int) (h1 : 1 ≤ b) (h2 : b ≤ p) (h3 : p ≤ 1099511627776) (h4 : 1 ≤ m) (h5 : m ≤ 16) : Good (sNew b p m) :=
  ⟨h1, h2, h3, h4, h5, by simp [sNew]; omega, by simp [sNew], by simp [sNew, psum], by simp [sNew], by simp [sNew], by simp [sNew], by simp [sNew], by simp [sNew]; omega, by simp [sNew]⟩

theorem new_good (b p m : Int) (w : World) (h1 : 1 ≤ b) (h2 : b ≤ p) (h3 : p ≤ 1099511627776) (h4 : 1 ≤ m) (h5 : m ≤ 16) :
    Calls Try.prog 6 #[.int .i64 b, .int .i64 p, .int .i64 m] w fun e w' => e = .returned (.tuple #[.pointer (some ⟨w.heap.size, 0, none⟩), .int .i64 0]) ∧ Only [] w w' ∧ Sv w' w.heap.size w.heap.size none 0 (sNew b p m) := by
  go_enter Try.func6, Try.ntmps6
  go_wp2
  go_ret2
  exact ⟨rfl, (Only.refl _ _).alloc _, ⟨Blk.new _ _ _, World.ownsRow_nil _ _ _ _, good_new b p m h1 h2 h3 h4 h5, Nat.le_refl _⟩⟩

theorem left_any {B g c : Nat} {A : Option Addr} {s : SS} {w : World} (h : Sv w B g A c s) : Calls Try.prog 13 #[.pointer (some ⟨g, 0, none⟩)] w fun e w' => e = .returned (.int .i64 s.left) ∧ w = w' := by
  obtain ⟨k0, k1, k2, k3, k4, k5, k6, k7⟩ := h.cells
  have hb : 0 < s.budget := by have := h.good.b1; omega
  go_enter Try.func13, Try.ntmps13
  go_wp2_with (go_at_call 19; refine (is_yes _ _ _ k0 hb).mono ?_; rintro e w' ⟨rfl, rfl⟩)
  go_ret
  exact ⟨rfl, rfl⟩

def high (s : SS) : Bool := decide (0 < s.left) && decide ((s.ps.length : Int) < s.most)

theorem high_any {B g c : Nat} {A : Option Addr} {s : SS} {w : World} (h : Sv w B g A c s) : Calls Try.prog 15 #[.pointer (some ⟨g, 0, none⟩)] w fun e w' => e = .returned (.bool (high s)) ∧ ∃ k, w.drewN k = w' := by
  obtain ⟨k0, k1, k2, k3, k4, k5, k6, k7⟩ := h.cells
  have hb : 0 < s.budget := by have := h.good.b1; omega
  unfold high
  by_cases h1 : 0 < s.left
  · have d1 : decide (0 < s.left) = true := by simpa using h1
    go_enter Try.func15, Try.ntmps15
    go_wp2_with fail
    go_quiet ((go_at_call 19; exact quiet_left (is_yes _ _ _ (by simpa using k0) hb)))
    go_wp2
    go_ret
    exact ⟨(by first | rfl | (rw [d1]; rfl)), _, rfl⟩
  · have d1 : decide (0 < s.left) = false := by simpa using h1
    go_enter Try.func15, Try.ntmps15
    go_wp2_with fail
    go_quiet ((go_at_call 19; exact quiet_left (is_yes _ _ _ (by simpa using k0) hb)))
    go_wp2
    go_ret
    exact ⟨(by first | rfl | (rw [d1]; rfl)), _, rfl⟩

theorem active_any {B g c : Nat} {A : Option Addr} {s : SS} {w : World} (h : Sv w B g A c s) :
    Calls Try.prog 12 #[.pointer (some ⟨g, 0, none⟩)] w fun e w' => e = .returned (.tuple #[.int .i64 s.since, .int .i64 s.used, .bool s.active]) ∧ ∃ k, w.drewN k = w' := by
  obtain ⟨k0, k1, k2, k3, k4, k5, k6, k7⟩ := h.cells
  have hb : 0 < s.budget := by have := h.good.b1; omega
  have hoff := h.good.off
  cases ha : s.active with
  | false =>
    obtain ⟨e1, e2⟩ := hoff ha
    rw [ha] at k4
    clear hoff
    have E1 := hide e1
    have E2 := hide e2
    have HA := hide ha
    clear e1 e2 ha
    go_enter Try.func12, Try.ntmps12
    go_wp2_with (go_at_call 19; refine (is_yes _ _ _ k0 hb).mono ?_; rintro e w' ⟨rfl, rfl⟩)
    go_ret3
    exact ⟨by rw [E1.out, E2.out]; rfl, 0, rfl⟩
  | true =>
    rw [ha] at k4
    clear hoff ha
    go_enter Try.func12, Try.ntmps12
    go_wp2_with (go_at_call 19; refine (is_yes _ _ _ k0 hb).mono ?_; rintro e w' ⟨rfl, rfl⟩)
    go_quiet (fail)
    go_wp2
    go_ret3
    exact ⟨rfl, _, rfl⟩

def sStart (s : SS) (now : Int) : SS × Int :=
  if 0 ≤ now ∧ now ≤ 1099511627776 then (if s.active then (s, 7) else ({ s with active := true, since := now, used := 0 }, 0)) else (s, 2)

theorem good_start {s : SS} (h : Good s) (now : Int) : Good (sStart s now).1 := by
  unfold sStart
  split
  · split
    · exact h
    · rename_i h1 h2
      have := h.off (by simpa using h2)
      exact ⟨h.b1, h.bp, h.pm, h.m1, h.m16, h.l0, Int.le_refl _, by have := h.total; simp only; omega, h.amt, h.due, h1, by simp, h.len, by simp⟩
  · exact h

theorem start_any {B g c : Nat} {A : Option Addr} {s : SS} {w : World} (now : Int) (h : Sv w B g A c s) :
    Calls Try.prog 8 #[.pointer (some ⟨g, 0, none⟩), .int .i64 now] w fun e w' => e = .returned (.int .i64 (sStart s now).2) ∧ Only [g] w w' ∧ Sv w' B g A c (sStart s now).1 := by
  obtain ⟨k0, k1, k2, k3, k4, k5, k6, k7⟩ := h.cells
  have hb : 0 < s.budget := by have := h.good.b1; omega
  have f4 := h.hdr.frozen 4
  have f5 := h.hdr.frozen 5
  have f6 := h.hdr.frozen 6
  have hgood := hide (good_start h.good now)
  have H := hide h
  clear h
  unfold sStart at *
  by_cases hn : 0 ≤ now ∧ now ≤ 1099511627776
  · have d0 : decide (0 ≤ now) = true := by simpa using hn.1
    have d1 : decide (now ≤ 1099511627776) = true := by simpa using hn.2
    simp only [if_pos hn] at *
    have HN := hide hn
    clear hn
    cases ha : s.active with
    | false =>
      rw [ha] at k4
      simp only [ha] at hgood
      clear ha
      go_enter Try.func8, Try.ntmps8
      go_wp2_with (first
        | (go_at_call 19; refine (is_yes _ _ _ k0 hb).mono ?_; rintro e w' ⟨rfl, rfl⟩)
        | (go_at_call 20; refine (time_any _ _).mono ?_; rintro e w' ⟨rfl, rfl⟩))
      go_ret
      have hb' := ((H.out.hdr.set_ 4 (.bool true)).set_ 5 (.int .i64 now)).set_ 6 (.int .i64 0)
      have hO : Only [g] w (((w.setCell ⟨g, 4, none⟩ (.bool true)).setCell ⟨g, 5, none⟩ (.int .i64 now)).setCell ⟨g, 6, none⟩ (.int .i64 0)) := (((Only.refl _ w).setCell (.inl (by simp)) _).setCell (.inl (by simp)) _).setCell (.inl (by simp)) _
      exact ⟨rfl, hO, ⟨hb', own_only' H.out.row hO (fun k hk => by simp; rintro rfl; exact H.out.ne hk), hgood.out, H.out.ge⟩⟩
    | true =>
      rw [ha] at k4
      clear ha
      go_enter Try.func8, Try.ntmps8
      go_wp2_with (first
        | (go_at_call 19; refine (is_yes _ _ _ k0 hb).mono ?_; rintro e w' ⟨rfl, rfl⟩)
        | (go_at_call 20; refine (time_any _ _).mono ?_; rintro e w' ⟨rfl, rfl⟩))
      go_ret
      exact ⟨rfl, Only.refl _ _, H.out⟩
  · have d0 : (decide (0 ≤ now) && decide (now ≤ 1099511627776)) = false := by simp; omega
    simp only [if_neg hn] at *
    clear hn
    go_enter Try.func8, Try.ntmps8
    go_wp2_with (first
      | (go_at_call 19; refine (is_yes _ _ _ k0 hb).mono ?_; rintro e w' ⟨rfl, rfl⟩)
      | (go_at_call 20; refine (time_any _ _).mono ?_; rintro e w' ⟨rfl, rfl⟩))
    go_ret
    exact ⟨rfl, Only.refl _ _, H.out⟩
end Go.Proofs.Ytidllhnldhnoeaa
