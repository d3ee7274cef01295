/- Tlsf: Realloc. No condition but what each theorem says. -/
import Derived.Test.YthlaoanfoimkfaaDoorTfB
import Derived.Test.YthlaoanfoimkfaaDoorThE
import Derived.Test.YthlaoanfoimkfaaDoorAr4
namespace Go.Proofs.YthlaoanfoimkfaaDoor
set_option linter.unusedVariables false
set_option linter.all false
theorem Inv.off {N : Nat} {m m' : Nat → Nat} {B : List Bk} {L : Nat → List Nat} (h : Inv N m B L) (hm : ∀ x, ¬ Off B x → m' x = m x) : Inv N m' B L := by
  have low : ∀ x < 112, m' x = m x := fun x hx => hm x fun ho => by have := ho.1; omega
  have hat : ∀ b ∈ B, m' b.at' = m b.at' := fun b hb => hm _ fun ho => (ho.2 b hb).1 rfl
  have ha4 : ∀ b ∈ B, m' (b.at' + 4) = m (b.at' + 4) := fun b hb => hm _ fun ho => (ho.2 b hb).2.1 rfl
  have hl : ∀ b ∈ B, b.k = 1 → m' (b.at' + 8) = m (b.at' + 8) ∧ m' (b.at' + 12) = m (b.at' + 12) := fun b hb hk =>
    ⟨hm _ fun ho => ((ho.2 b hb).2.2 hk).1 rfl, hm _ fun ho => ((ho.2 b hb).2.2 hk).2 rfl⟩
  refine ⟨h.size, h.tile, ?_, fun b hb hk => (hat b hb).trans (h.head b hb hk), fun b hb hk hlt => ?_, h.kind, fun c hc => (low _ (by omega)).trans (h.root c hc), fun c hc => ?_, fun c hc => ?_, ?_, h.mem, h.nodup⟩
  · have hs := h.size
    cases B with
    | nil =>
      have : 112 = N := h.tile
      omega
    | cons b r =>
      have e : b.at' = 112 := h.tile.1
      have := ha4 b (by simp)
      rw [e] at this
      exact this.trans h.first
  · obtain ⟨A, C, rfl⟩ := List.append_of_mem hb
    have hp := h.tile.pos
    have hb2 := h.behind b hb hk hlt
    cases C with
    | nil =>
      have : b.at' + b.size = N := hp.2.2.2.2.2.2.1
      omega
    | cons c r =>
      have e : c.at' = b.at' + b.size := hp.2.2.2.2.2.2.1.1
      have := ha4 c (by simp)
      rw [e] at this
      exact this.trans hb2
  · refine (h.link c hc).congr fun a ha => ?_
    obtain ⟨b, hb, e1, e2, e3⟩ := (h.mem c a).1 ha
    rw [← e1]
    exact hl b hb e2
  · rw [low 0 (by omega)]; exact h.bit c hc
  · rw [low 0 (by omega)]; exact h.low
/-- Words of one piece are laid into another. -/
def copyW (m : Nat → Nat) (src dst n : Nat) : Nat → Nat := fun y => if dst ≤ y ∧ y < dst + n then m (y - dst + src) else m y
theorem wd_drop {bs : List UInt8} {o n y : Nat} (h : o + n ≤ bs.length) (h4 : y % 4 = 0) (ho : o % 4 = 0) (hn : n % 4 = 0) (hy : y < n) : wd ((bs.drop o).take n) y = wd bs (o + y) := by
  have hb : ∀ j, j < n → byt ((bs.drop o).take n) j = byt bs (o + j) := fun j hj => by
    unfold byt
    simp only [List.getD_eq_getElem?_getD]
    rw [List.getElem?_take_of_lt hj, List.getElem?_drop]
  unfold wd
  rw [if_pos h4, if_pos (by omega), hb y (by omega), hb (y + 1) (by omega), hb (y + 2) (by omega), hb (y + 3) (by omega)]
  rfl
end Go.Proofs.YthlaoanfoimkfaaDoor
namespace Go.Proofs.YthlaoanfoimkfaaDoor
open Go.RowKit
set_option linter.unusedVariables false
set_option linter.all false
set_option maxRecDepth 100000
section
variable {w w' : World} {h g gb cap mb N : Nat} {m : Nat → Nat} {S : List Nat} {B A C : List Bk} {b : Bk} {L : Nat → List Nat} {U : List Nat}
theorem read_me (H : Me w h g gb cap mb N m) {o n : Nat} (ho : o % 4 = 0) (hn : n % 4 = 0) (hfit : o + n ≤ N) :
    Calls Tryd.prog 55 #[.pointer (some ⟨g, 0, none⟩), .int .i64 o, .int .i64 n] w fun e w' => ∃ g' cap' ds, e = .returned (.tuple #[.slice (some ⟨g', 0, none⟩) n cap', .int .i64 0]) ∧ Only [] w w' ∧ Src w' (some ⟨g', 0, none⟩) ds ∧ ds.length = n ∧ ∀ y, y % 4 = 0 → y < n → wd ds y = m (o + y) := by
  obtain ⟨bs, c, hA, e1, e2⟩ := H.mem
  refine (read_good g gb cap bs c o n w hA (by omega)).mono ?_
  rintro e w' ⟨⟨g', cap', rfl, hown⟩, o1⟩
  refine ⟨g', cap', _, rfl, o1, Src.own hown, by rw [List.length_take, List.length_drop]; omega, fun y hy hl => ?_⟩
  rw [wd_drop (by omega) hy ho hn hl, e2]
theorem write_me (H : Me w h g gb cap mb N m) {o n cp src : Nat} {p : Option Addr} {ds : List UInt8} (ho : o % 4 = 0) (hn : n % 4 = 0) (hsr : src % 4 = 0) (hfit : o + n ≤ N) (hl : ds.length = n) (hs : Src w p ds) (hw : ∀ y, y % 4 = 0 → y < n → wd ds y = m (src + y)) :
    Calls Tryd.prog 43 #[.pointer (some ⟨g, 0, none⟩), .int .i64 o, .slice p n cp] w fun e w' => e = .returned (.int .i64 0) ∧ Only [gb] w w' ∧ Me w' h g gb cap mb N (copyW m src o n) := by
  have hne := H.ne
  have hH := H.hdr
  obtain ⟨bs, c, hA, e1, e2⟩ := H.mem
  refine (write_good g gb cap n cp bs c o p ds w hA hl (by omega) hs).mono ?_
  rintro e w' ⟨rfl, o1, hA'⟩
  refine ⟨rfl, o1, hH.only o1 (by simp; exact hne.2), _, c, hA', by rw [length_splice _ _ _ (by omega)]; exact e1, ?_⟩
  funext y
  by_cases hy : y % 4 = 0
  · rw [← lays_splice, wd_lays (by omega) ho (by omega) hy, hl]
    unfold copyW
    by_cases hc : o ≤ y ∧ y < o + n
    · rw [if_pos hc, if_pos hc, hw (y - o) (by omega) (by omega), show src + (y - o) = y - o + src by omega]
    · rw [if_neg hc, if_neg hc, e2]
  · have h0 : ∀ cs z, z % 4 ≠ 0 → wd cs z = 0 := fun cs z hz => if_neg hz
    rw [h0 _ _ hy]
    unfold copyW
    rw [← e2]
    split
    · rw [h0 _ _ (by omega)]
    · rw [h0 _ _ hy]
end
end Go.Proofs.YthlaoanfoimkfaaDoor
namespace Go.Proofs.YthlaoanfoimkfaaDoor
open Go.RowKit
set_option linter.unusedVariables false
set_option linter.all false
set_option maxRecDepth 100000
section
variable {w w' : World} {h g gb cap mb N : Nat} {m : Nat → Nat} {S : List Nat} {B A C : List Bk} {b : Bk} {L : Nat → List Nat} {U : List Nat}
set_option maxHeartbeats 2000000 in
theorem re_bad (H : Hp w h g gb cap mb N B L m) {x n : Int} (hn : ¬ (1 ≤ n ∧ n ≤ 65536)) :
    Calls Tryd.prog 19 #[.pointer (some ⟨h, 0, none⟩), .int .i64 x, .int .i64 n] w fun e w' => e = .returned (.tuple #[.int .i64 0, .int .i64 2]) ∧ w = w' := by
  have hA := ask_any H.me false
  have hM := may_any n w
  rw [decide_eq_false hn] at hM
  have HA := Lib.hid hA
  have HM := Lib.hid hM
  clear H hA hM hn
  go_enter Tryd.func19, Tryd.ntmps19
  go_wp2_with (first
    | (go_at_call 46; (with_reducible refine HM.out.mono ?_); rintro e w' ⟨rfl, rfl⟩)
    | (go_at_call 36; refine HA.out.mono ?_; rintro e w' ⟨rfl, rfl⟩))
  go_ret2
  exact ⟨by simp, rfl⟩
set_option maxHeartbeats 2000000 in
theorem re_none (H : Hp w h g gb cap mb N B L m) {x : Int} {n : Nat} (h1 : 1 ≤ n) (h2 : n ≤ 65536) (hx : NoPiece B x) (hb : -9223372036854775808 ≤ x ∧ x ≤ 9223372036854775807) :
    Calls Tryd.prog 19 #[.pointer (some ⟨h, 0, none⟩), .int .i64 x, .int .i64 n] w fun e w' => e = .returned (.tuple #[.int .i64 0, .int .i64 6]) ∧ w = w' := by
  have hA := ask_any H.me true
  have hM := may_any n w
  rw [decide_eq_true (by omega)] at hM
  have HP := Lib.hid (H.noPiece hx hb)
  have HA := Lib.hid hA
  have HM := Lib.hid hM
  clear H hA hM hx
  go_enter Tryd.func19, Tryd.ntmps19
  go_wp2_with (first
    | (go_at_call 46; (with_reducible refine HM.out.mono ?_); rintro e w' ⟨rfl, rfl⟩)
    | (go_at_call 36; refine HA.out.mono ?_; rintro e w' ⟨rfl, rfl⟩)
    | (go_at_call 50; (with_reducible refine HP.out.mono ?_); rintro e w' ⟨rfl, rfl⟩))
  go_ret2
  exact ⟨by simp, rfl⟩
set_option maxHeartbeats 2000000 in
theorem re_big (H : Me w h g gb cap mb N m) {p x size z cs n : Nat} (hx : (x : Int) - 8 = (p : Int)) (hp : p < 70000) (hs : size < 70000) (hz : z < 70000) (hcs : cs < 70000) (hN : N ≤ 65536) (h1 : 1 ≤ n) (h2 : n ≤ 65536) (hne : need n = z) {J : (Nat → Nat) → Prop} {K : World → Prop} 
    (HP : Calls Tryd.prog 50 #[.pointer (some ⟨h, 0, none⟩), .int .i64 x] w fun e w' => e = .returned (.int .i64 0) ∧ w = w') (SZ : Calls Tryd.prog 51 #[.pointer (some ⟨h, 0, none⟩), .int .i64 p] w fun e w' => e = .returned (.tuple #[.int .i64 size, .bool false]) ∧ Only [g] w w' ∧ Me w' h g gb cap mb N m)
    (hlt : ¬ ((size : Int) < (z : Int))) (CUT : ∀ w1, Only [g, gb] w w1 → Me w1 h g gb cap mb N m → Calls Tryd.prog 49 #[.pointer (some ⟨h, 0, none⟩), .int .i64 p, .int .i64 (size : Int), .int .i64 z, .func (.func 52) #[.pointer (some ⟨h, 0, none⟩)] #[]] w1 fun e w' => e = .returned (.int .i64 x) ∧ Only [g, gb, mb] w1 w' ∧ K w') :
    Calls Tryd.prog 19 #[.pointer (some ⟨h, 0, none⟩), .int .i64 x, .int .i64 n] w fun e w' => e = .returned (.tuple #[.int .i64 x, .int .i64 0]) ∧ Only [g, gb, mb] w w' ∧ K w' := by
  have hA := ask_any H true
  have hM := may_any n w
  rw [decide_eq_true (by omega)] at hM
  have HA := Lib.hid hA
  have HM := Lib.hid hM
  have HN : Calls Tryd.prog 48 #[.int .i64 n] w fun e w' => e = .returned (.int .i64 z) ∧ w = w' := by
    have := need_any w h2
    rw [hne] at this; exact this
  replace HP := Lib.hid HP
  replace SZ := Lib.hid SZ
  replace HN := Lib.hid HN
  replace CUT := Lib.hid CUT
  have hxb : x < 80000 := by omega
  clear hA hM hne
  go_enter Tryd.func19, Tryd.ntmps19
  go_wp2_with (first
    | (go_at_call 46; (with_reducible refine HM.out.mono ?_); rintro e w' ⟨rfl, rfl⟩)
    | (go_at_call 36; refine HA.out.mono ?_; rintro e w' ⟨rfl, rfl⟩)
    | (go_at_call 50; (with_reducible refine HP.out.mono ?_); rintro e w' ⟨rfl, rfl⟩)
    | (go_at_call 48; (with_reducible refine HN.out.mono ?_); rintro e w' ⟨rfl, rfl⟩)
    | (go_at_call 51; (with_reducible refine SZ.out.mono ?_); rintro e w1 ⟨rfl, o1, H1⟩; have k0 : w1.cell? ⟨h, 0, none⟩ = some (.pointer (some ⟨g, 0, none⟩)) := (by simpa using H1.hdr.cell 0))
    | (go_at_call 49; (with_reducible refine (CUT.out _ (o1.mono (by simp)) H1).mono ?_); rintro e w3 ⟨rfl, o3, K3⟩))
  go_ret2
  exact ⟨by simp, (o1.mono (by simp)).trans o3 (by simp), K3⟩
set_option maxHeartbeats 2000000 in
theorem re_grow (H : Me w h g gb cap mb N m) {p x size z cs n : Nat} (hx : (x : Int) - 8 = (p : Int)) (hp : p < 70000) (hs : size < 70000) (hz : z < 70000) (hcs : cs < 70000) (hN : N ≤ 65536) (h1 : 1 ≤ n) (h2 : n ≤ 65536) (hne : need n = z) {J : (Nat → Nat) → Prop} {K : World → Prop} 
    (HP : Calls Tryd.prog 50 #[.pointer (some ⟨h, 0, none⟩), .int .i64 x] w fun e w' => e = .returned (.int .i64 0) ∧ w = w') (SZ : Calls Tryd.prog 51 #[.pointer (some ⟨h, 0, none⟩), .int .i64 p] w fun e w' => e = .returned (.tuple #[.int .i64 size, .bool false]) ∧ Only [g] w w' ∧ Me w' h g gb cap mb N m)
    (hlt : ((size : Int) < (z : Int))) (hlN : (p : Int) + (size : Int) < (N : Int)) (SZB : ∀ w1, Me w1 h g gb cap mb N m → Calls Tryd.prog 51 #[.pointer (some ⟨h, 0, none⟩), .int .i64 ((p : Int) + (size : Int))] w1 fun e w' => e = .returned (.tuple #[.int .i64 cs, .bool true]) ∧ Only [g] w1 w' ∧ Me w' h g gb cap mb N m) (hsum : (z : Int) ≤ (size : Int) + (cs : Int)) (OUT : ∀ w1, Me w1 h g gb cap mb N m → Calls Tryd.prog 54 #[.pointer (some ⟨h, 0, none⟩), .int .i64 ((p : Int) + (size : Int)), .int .i64 cs] w1 fun e w' => e = .returned (.tuple #[]) ∧ Only [g, gb] w1 w' ∧ ∃ m', Me w' h g gb cap mb N m' ∧ J m') (CUT : ∀ w1 m1, Only [g, gb] w w1 → Me w1 h g gb cap mb N m1 → J m1 → Calls Tryd.prog 49 #[.pointer (some ⟨h, 0, none⟩), .int .i64 p, .int .i64 ((size : Int) + (cs : Int)), .int .i64 z, .func (.func 52) #[.pointer (some ⟨h, 0, none⟩)] #[]] w1 fun e w' => e = .returned (.int .i64 x) ∧ Only [g, gb, mb] w1 w' ∧ K w') :
    Calls Tryd.prog 19 #[.pointer (some ⟨h, 0, none⟩), .int .i64 x, .int .i64 n] w fun e w' => e = .returned (.tuple #[.int .i64 x, .int .i64 0]) ∧ Only [g, gb, mb] w w' ∧ K w' := by
  have hA := ask_any H true
  have hM := may_any n w
  rw [decide_eq_true (by omega)] at hM
  have HA := Lib.hid hA
  have HM := Lib.hid hM
  have HN : Calls Tryd.prog 48 #[.int .i64 n] w fun e w' => e = .returned (.int .i64 z) ∧ w = w' := by
    have := need_any w h2
    rw [hne] at this; exact this
  have hge : ¬ (z : Int) ≤ (size : Int) := by omega
  replace HP := Lib.hid HP
  replace SZ := Lib.hid SZ
  replace HN := Lib.hid HN
  replace SZB := Lib.hid SZB
  replace OUT := Lib.hid OUT
  replace CUT := Lib.hid CUT
  have hxb : x < 80000 := by omega
  clear hA hM hne
  go_enter Tryd.func19, Tryd.ntmps19
  go_wp2_with (first
    | (go_at_call 46; (with_reducible refine HM.out.mono ?_); rintro e w' ⟨rfl, rfl⟩)
    | (go_at_call 36; refine HA.out.mono ?_; rintro e w' ⟨rfl, rfl⟩)
    | (go_at_call 50; (with_reducible refine HP.out.mono ?_); rintro e w' ⟨rfl, rfl⟩)
    | (go_at_call 48; (with_reducible refine HN.out.mono ?_); rintro e w' ⟨rfl, rfl⟩)
    | (go_at_call 51; (with_reducible refine SZ.out.mono ?_); rintro e w1 ⟨rfl, o1, H1⟩; have k0 : w1.cell? ⟨h, 0, none⟩ = some (.pointer (some ⟨g, 0, none⟩)) := (by simpa using H1.hdr.cell 0))
    | (go_at_call 42; (with_reducible refine (len_any H1).mono ?_); rintro e w' ⟨rfl, rfl⟩)
    | (go_at_call 51; (with_reducible refine (SZB.out _ H1).mono ?_); rintro e w2 ⟨rfl, o2, H2⟩)
    | (go_at_call 54; (with_reducible refine (OUT.out _ H2).mono ?_); rintro e w3 ⟨rfl, o3, m3, H3, j3⟩)
    | (go_at_call 49; (with_reducible refine (CUT.out _ _ (((o1.trans o2 (by simp)).mono (by simp) : Only [g, gb] _ _).trans o3 (by simp)) H3 j3).mono ?_); rintro e w4 ⟨rfl, o4, K4⟩))
  go_ret2
  exact ⟨by simp, ((((o1.trans o2 (by simp)).mono (by simp) : Only [g, gb] _ _).trans o3 (by simp)).mono (by simp)).trans o4 (by simp), K4⟩
set_option maxHeartbeats 2000000 in
theorem re_no_e (H : Me w h g gb cap mb N m) {p x size z cs n : Nat} (hx : (x : Int) - 8 = (p : Int)) (hp : p < 70000) (hs : size < 70000) (hz : z < 70000) (hcs : cs < 70000) (hN : N ≤ 65536) (h1 : 1 ≤ n) (h2 : n ≤ 65536) (hne : need n = z) {K : World → Prop} 
    (HP : Calls Tryd.prog 50 #[.pointer (some ⟨h, 0, none⟩), .int .i64 x] w fun e w' => e = .returned (.int .i64 0) ∧ w = w') (SZ : Calls Tryd.prog 51 #[.pointer (some ⟨h, 0, none⟩), .int .i64 p] w fun e w' => e = .returned (.tuple #[.int .i64 size, .bool false]) ∧ Only [g] w w' ∧ Me w' h g gb cap mb N m)
    (hlt : ((size : Int) < (z : Int))) (hlN : ¬ (p : Int) + (size : Int) < (N : Int)) (AL : ∀ w1, Only [g] w w1 → Me w1 h g gb cap mb N m → Calls Tryd.prog 15 #[.pointer (some ⟨h, 0, none⟩), .int .i64 n] w1 fun e w' => e = .returned (.tuple #[.int .i64 0, .int .i64 5]) ∧ Only [g] w1 w' ∧ K w') :
    Calls Tryd.prog 19 #[.pointer (some ⟨h, 0, none⟩), .int .i64 x, .int .i64 n] w fun e w' => e = .returned (.tuple #[.int .i64 0, .int .i64 5]) ∧ Only [g, gb, mb] w w' ∧ K w' := by
  have hA := ask_any H true
  have hM := may_any n w
  rw [decide_eq_true (by omega)] at hM
  have HA := Lib.hid hA
  have HM := Lib.hid hM
  have HN : Calls Tryd.prog 48 #[.int .i64 n] w fun e w' => e = .returned (.int .i64 z) ∧ w = w' := by
    have := need_any w h2
    rw [hne] at this; exact this
  have hge : ¬ (z : Int) ≤ (size : Int) := by omega
  replace HP := Lib.hid HP
  replace SZ := Lib.hid SZ
  replace HN := Lib.hid HN
  replace AL := Lib.hid AL
  have hxb : x < 80000 := by omega
  clear hA hM hne
  go_enter Tryd.func19, Tryd.ntmps19
  go_wp2_with (first
    | (go_at_call 46; (with_reducible refine HM.out.mono ?_); rintro e w' ⟨rfl, rfl⟩)
    | (go_at_call 36; refine HA.out.mono ?_; rintro e w' ⟨rfl, rfl⟩)
    | (go_at_call 50; (with_reducible refine HP.out.mono ?_); rintro e w' ⟨rfl, rfl⟩)
    | (go_at_call 48; (with_reducible refine HN.out.mono ?_); rintro e w' ⟨rfl, rfl⟩)
    | (go_at_call 51; (with_reducible refine SZ.out.mono ?_); rintro e w1 ⟨rfl, o1, H1⟩; have k0 : w1.cell? ⟨h, 0, none⟩ = some (.pointer (some ⟨g, 0, none⟩)) := (by simpa using H1.hdr.cell 0))
    | (go_at_call 42; (with_reducible refine (len_any H1).mono ?_); rintro e w' ⟨rfl, rfl⟩)
    | (go_at_call 15; (with_reducible refine (AL.out _ o1 H1).mono ?_); rintro e w3 ⟨rfl, o3, K3⟩))
  go_ret2
  exact ⟨by simp, (o1.trans o3 (by simp)).mono (by simp), K3⟩
set_option maxHeartbeats 2000000 in
theorem re_no_u (H : Me w h g gb cap mb N m) {p x size z cs n : Nat} (hx : (x : Int) - 8 = (p : Int)) (hp : p < 70000) (hs : size < 70000) (hz : z < 70000) (hcs : cs < 70000) (hN : N ≤ 65536) (h1 : 1 ≤ n) (h2 : n ≤ 65536) (hne : need n = z) {K : World → Prop} 
    (HP : Calls Tryd.prog 50 #[.pointer (some ⟨h, 0, none⟩), .int .i64 x] w fun e w' => e = .returned (.int .i64 0) ∧ w = w') (SZ : Calls Tryd.prog 51 #[.pointer (some ⟨h, 0, none⟩), .int .i64 p] w fun e w' => e = .returned (.tuple #[.int .i64 size, .bool false]) ∧ Only [g] w w' ∧ Me w' h g gb cap mb N m)
    (hlt : ((size : Int) < (z : Int))) (hlN : (p : Int) + (size : Int) < (N : Int)) (SZB : ∀ w1, Me w1 h g gb cap mb N m → Calls Tryd.prog 51 #[.pointer (some ⟨h, 0, none⟩), .int .i64 ((p : Int) + (size : Int))] w1 fun e w' => e = .returned (.tuple #[.int .i64 cs, .bool false]) ∧ Only [g] w1 w' ∧ Me w' h g gb cap mb N m) (AL : ∀ w1, Only [g] w w1 → Me w1 h g gb cap mb N m → Calls Tryd.prog 15 #[.pointer (some ⟨h, 0, none⟩), .int .i64 n] w1 fun e w' => e = .returned (.tuple #[.int .i64 0, .int .i64 5]) ∧ Only [g] w1 w' ∧ K w') :
    Calls Tryd.prog 19 #[.pointer (some ⟨h, 0, none⟩), .int .i64 x, .int .i64 n] w fun e w' => e = .returned (.tuple #[.int .i64 0, .int .i64 5]) ∧ Only [g, gb, mb] w w' ∧ K w' := by
  have hA := ask_any H true
  have hM := may_any n w
  rw [decide_eq_true (by omega)] at hM
  have HA := Lib.hid hA
  have HM := Lib.hid hM
  have HN : Calls Tryd.prog 48 #[.int .i64 n] w fun e w' => e = .returned (.int .i64 z) ∧ w = w' := by
    have := need_any w h2
    rw [hne] at this; exact this
  have hge : ¬ (z : Int) ≤ (size : Int) := by omega
  replace HP := Lib.hid HP
  replace SZ := Lib.hid SZ
  replace HN := Lib.hid HN
  replace SZB := Lib.hid SZB
  replace AL := Lib.hid AL
  have hxb : x < 80000 := by omega
  clear hA hM hne
  go_enter Tryd.func19, Tryd.ntmps19
  go_wp2_with (first
    | (go_at_call 46; (with_reducible refine HM.out.mono ?_); rintro e w' ⟨rfl, rfl⟩)
    | (go_at_call 36; refine HA.out.mono ?_; rintro e w' ⟨rfl, rfl⟩)
    | (go_at_call 50; (with_reducible refine HP.out.mono ?_); rintro e w' ⟨rfl, rfl⟩)
    | (go_at_call 48; (with_reducible refine HN.out.mono ?_); rintro e w' ⟨rfl, rfl⟩)
    | (go_at_call 51; (with_reducible refine SZ.out.mono ?_); rintro e w1 ⟨rfl, o1, H1⟩; have k0 : w1.cell? ⟨h, 0, none⟩ = some (.pointer (some ⟨g, 0, none⟩)) := (by simpa using H1.hdr.cell 0))
    | (go_at_call 42; (with_reducible refine (len_any H1).mono ?_); rintro e w' ⟨rfl, rfl⟩)
    | (go_at_call 51; (with_reducible refine (SZB.out _ H1).mono ?_); rintro e w2 ⟨rfl, o2, H2⟩)
    | (go_at_call 15; (with_reducible refine (AL.out _ (o1.trans o2 (by simp)) H2).mono ?_); rintro e w3 ⟨rfl, o3, K3⟩))
  go_ret2
  exact ⟨by simp, ((o1.trans o2 (by simp)).trans o3 (by simp)).mono (by simp), K3⟩
set_option maxHeartbeats 2000000 in
theorem re_no_f (H : Me w h g gb cap mb N m) {p x size z cs n : Nat} (hx : (x : Int) - 8 = (p : Int)) (hp : p < 70000) (hs : size < 70000) (hz : z < 70000) (hcs : cs < 70000) (hN : N ≤ 65536) (h1 : 1 ≤ n) (h2 : n ≤ 65536) (hne : need n = z) {K : World → Prop} 
    (HP : Calls Tryd.prog 50 #[.pointer (some ⟨h, 0, none⟩), .int .i64 x] w fun e w' => e = .returned (.int .i64 0) ∧ w = w') (SZ : Calls Tryd.prog 51 #[.pointer (some ⟨h, 0, none⟩), .int .i64 p] w fun e w' => e = .returned (.tuple #[.int .i64 size, .bool false]) ∧ Only [g] w w' ∧ Me w' h g gb cap mb N m)
    (hlt : ((size : Int) < (z : Int))) (hlN : (p : Int) + (size : Int) < (N : Int)) (SZB : ∀ w1, Me w1 h g gb cap mb N m → Calls Tryd.prog 51 #[.pointer (some ⟨h, 0, none⟩), .int .i64 ((p : Int) + (size : Int))] w1 fun e w' => e = .returned (.tuple #[.int .i64 cs, .bool true]) ∧ Only [g] w1 w' ∧ Me w' h g gb cap mb N m) (hsum : ¬ (z : Int) ≤ (size : Int) + (cs : Int)) (AL : ∀ w1, Only [g] w w1 → Me w1 h g gb cap mb N m → Calls Tryd.prog 15 #[.pointer (some ⟨h, 0, none⟩), .int .i64 n] w1 fun e w' => e = .returned (.tuple #[.int .i64 0, .int .i64 5]) ∧ Only [g] w1 w' ∧ K w') :
    Calls Tryd.prog 19 #[.pointer (some ⟨h, 0, none⟩), .int .i64 x, .int .i64 n] w fun e w' => e = .returned (.tuple #[.int .i64 0, .int .i64 5]) ∧ Only [g, gb, mb] w w' ∧ K w' := by
  have hA := ask_any H true
  have hM := may_any n w
  rw [decide_eq_true (by omega)] at hM
  have HA := Lib.hid hA
  have HM := Lib.hid hM
  have HN : Calls Tryd.prog 48 #[.int .i64 n] w fun e w' => e = .returned (.int .i64 z) ∧ w = w' := by
    have := need_any w h2
    rw [hne] at this; exact this
  have hge : ¬ (z : Int) ≤ (size : Int) := by omega
  replace HP := Lib.hid HP
  replace SZ := Lib.hid SZ
  replace HN := Lib.hid HN
  replace SZB := Lib.hid SZB
  replace AL := Lib.hid AL
  have hxb : x < 80000 := by omega
  clear hA hM hne
  go_enter Tryd.func19, Tryd.ntmps19
  go_wp2_with (first
    | (go_at_call 46; (with_reducible refine HM.out.mono ?_); rintro e w' ⟨rfl, rfl⟩)
    | (go_at_call 36; refine HA.out.mono ?_; rintro e w' ⟨rfl, rfl⟩)
    | (go_at_call 50; (with_reducible refine HP.out.mono ?_); rintro e w' ⟨rfl, rfl⟩)
    | (go_at_call 48; (with_reducible refine HN.out.mono ?_); rintro e w' ⟨rfl, rfl⟩)
    | (go_at_call 51; (with_reducible refine SZ.out.mono ?_); rintro e w1 ⟨rfl, o1, H1⟩; have k0 : w1.cell? ⟨h, 0, none⟩ = some (.pointer (some ⟨g, 0, none⟩)) := (by simpa using H1.hdr.cell 0))
    | (go_at_call 42; (with_reducible refine (len_any H1).mono ?_); rintro e w' ⟨rfl, rfl⟩)
    | (go_at_call 51; (with_reducible refine (SZB.out _ H1).mono ?_); rintro e w2 ⟨rfl, o2, H2⟩)
    | (go_at_call 15; (with_reducible refine (AL.out _ (o1.trans o2 (by simp)) H2).mono ?_); rintro e w3 ⟨rfl, o3, K3⟩))
  go_ret2
  exact ⟨by simp, ((o1.trans o2 (by simp)).trans o3 (by simp)).mono (by simp), K3⟩
set_option maxHeartbeats 2000000 in
theorem re_yes_e (H : Me w h g gb cap mb N m) {p x size z cs n : Nat} (hx : (x : Int) - 8 = (p : Int)) (hp : p < 70000) (hs : size < 70000) (hz : z < 70000) (hcs : cs < 70000) (hN : N ≤ 65536) (h1 : 1 ≤ n) (h2 : n ≤ 65536) (hne : need n = z) {K K1 K2 : World → Prop} {R : World → Nat → Prop} {d n8 : Nat} 
    (HP : Calls Tryd.prog 50 #[.pointer (some ⟨h, 0, none⟩), .int .i64 x] w fun e w' => e = .returned (.int .i64 0) ∧ w = w') (SZ : Calls Tryd.prog 51 #[.pointer (some ⟨h, 0, none⟩), .int .i64 p] w fun e w' => e = .returned (.tuple #[.int .i64 size, .bool false]) ∧ Only [g] w w' ∧ Me w' h g gb cap mb N m)
    (hlt : ((size : Int) < (z : Int))) (hlN : ¬ (p : Int) + (size : Int) < (N : Int)) (hn8 : (size : Int) - 8 = (n8 : Int)) (hdb : d < 100000) (AL : ∀ w1, Only [g] w w1 → Me w1 h g gb cap mb N m → Calls Tryd.prog 15 #[.pointer (some ⟨h, 0, none⟩), .int .i64 n] w1 fun e w' => e = .returned (.tuple #[.int .i64 d, .int .i64 0]) ∧ Only [g, gb, mb] w1 w' ∧ K1 w') (K0 : ∀ w1, K1 w1 → w1.cell? ⟨h, 0, none⟩ = some (.pointer (some ⟨g, 0, none⟩))) (READ : ∀ w1, K1 w1 → Calls Tryd.prog 55 #[.pointer (some ⟨g, 0, none⟩), .int .i64 x, .int .i64 n8] w1 fun e w' => ∃ g' cap', e = .returned (.tuple #[.slice (some ⟨g', 0, none⟩) n8 cap', .int .i64 0]) ∧ Only [] w1 w' ∧ R w' g') (WRITE : ∀ w1 g' cap', R w1 g' → Calls Tryd.prog 43 #[.pointer (some ⟨g, 0, none⟩), .int .i64 d, .slice (some ⟨g', 0, none⟩) n8 cap'] w1 fun e w' => e = .returned (.int .i64 0) ∧ Only [gb] w1 w' ∧ K2 w') (FREE : ∀ w1, K2 w1 → Calls Tryd.prog 16 #[.pointer (some ⟨h, 0, none⟩), .int .i64 x] w1 fun e w' => e = .returned (.int .i64 0) ∧ Only [g, gb, mb] w1 w' ∧ K w') :
    Calls Tryd.prog 19 #[.pointer (some ⟨h, 0, none⟩), .int .i64 x, .int .i64 n] w fun e w' => e = .returned (.tuple #[.int .i64 d, .int .i64 0]) ∧ Only [g, gb, mb] w w' ∧ K w' := by
  have hA := ask_any H true
  have hM := may_any n w
  rw [decide_eq_true (by omega)] at hM
  have HA := Lib.hid hA
  have HM := Lib.hid hM
  have HN : Calls Tryd.prog 48 #[.int .i64 n] w fun e w' => e = .returned (.int .i64 z) ∧ w = w' := by
    have := need_any w h2
    rw [hne] at this; exact this
  have hge : ¬ (z : Int) ≤ (size : Int) := by omega
  replace HP := Lib.hid HP
  replace SZ := Lib.hid SZ
  replace HN := Lib.hid HN
  replace AL := Lib.hid AL
  replace READ := Lib.hid READ
  replace WRITE := Lib.hid WRITE
  replace FREE := Lib.hid FREE
  replace K0 := Lib.hid K0
  have hxb : x < 80000 := by omega
  clear hA hM hne
  go_enter Tryd.func19, Tryd.ntmps19
  go_wp2_with (first
    | (go_at_call 46; (with_reducible refine HM.out.mono ?_); rintro e w' ⟨rfl, rfl⟩)
    | (go_at_call 36; refine HA.out.mono ?_; rintro e w' ⟨rfl, rfl⟩)
    | (go_at_call 50; (with_reducible refine HP.out.mono ?_); rintro e w' ⟨rfl, rfl⟩)
    | (go_at_call 48; (with_reducible refine HN.out.mono ?_); rintro e w' ⟨rfl, rfl⟩)
    | (go_at_call 51; (with_reducible refine SZ.out.mono ?_); rintro e w1 ⟨rfl, o1, H1⟩; have k0 : w1.cell? ⟨h, 0, none⟩ = some (.pointer (some ⟨g, 0, none⟩)) := (by simpa using H1.hdr.cell 0))
    | (go_at_call 42; (with_reducible refine (len_any H1).mono ?_); rintro e w' ⟨rfl, rfl⟩)
    | (go_at_call 15; (with_reducible refine (AL.out _ o1 H1).mono ?_); rintro e w3 ⟨rfl, o3, K3⟩; have k3 := K0.out _ K3)
    | (go_at_call 55; (with_reducible refine (READ.out _ K3).mono ?_); rintro e w4 ⟨g', cap', rfl, o4, R4⟩; have k4 := o4.keep k3 (by simp))
    | (go_at_call 43; (with_reducible refine (WRITE.out _ _ _ R4).mono ?_); rintro e w5 ⟨rfl, o5, K5⟩)
    | (go_at_call 16; (with_reducible refine (FREE.out _ K5).mono ?_); rintro e w6 ⟨rfl, o6, K6⟩))
  go_ret2
  exact ⟨by simp, ((((o1.mono (by simp)).trans o3 (by simp)).trans0 o4).trans o5 (by simp)).trans o6 (by simp), K6⟩
set_option maxHeartbeats 2000000 in
theorem re_yes_u (H : Me w h g gb cap mb N m) {p x size z cs n : Nat} (hx : (x : Int) - 8 = (p : Int)) (hp : p < 70000) (hs : size < 70000) (hz : z < 70000) (hcs : cs < 70000) (hN : N ≤ 65536) (h1 : 1 ≤ n) (h2 : n ≤ 65536) (hne : need n = z) {K K1 K2 : World → Prop} {R : World → Nat → Prop} {d n8 : Nat} 
    (HP : Calls Tryd.prog 50 #[.pointer (some ⟨h, 0, none⟩), .int .i64 x] w fun e w' => e = .returned (.int .i64 0) ∧ w = w') (SZ : Calls Tryd.prog 51 #[.pointer (some ⟨h, 0, none⟩), .int .i64 p] w fun e w' => e = .returned (.tuple #[.int .i64 size, .bool false]) ∧ Only [g] w w' ∧ Me w' h g gb cap mb N m)
    (hlt : ((size : Int) < (z : Int))) (hlN : (p : Int) + (size : Int) < (N : Int)) (SZB : ∀ w1, Me w1 h g gb cap mb N m → Calls Tryd.prog 51 #[.pointer (some ⟨h, 0, none⟩), .int .i64 ((p : Int) + (size : Int))] w1 fun e w' => e = .returned (.tuple #[.int .i64 cs, .bool false]) ∧ Only [g] w1 w' ∧ Me w' h g gb cap mb N m) (hn8 : (size : Int) - 8 = (n8 : Int)) (hdb : d < 100000) (AL : ∀ w1, Only [g] w w1 → Me w1 h g gb cap mb N m → Calls Tryd.prog 15 #[.pointer (some ⟨h, 0, none⟩), .int .i64 n] w1 fun e w' => e = .returned (.tuple #[.int .i64 d, .int .i64 0]) ∧ Only [g, gb, mb] w1 w' ∧ K1 w') (K0 : ∀ w1, K1 w1 → w1.cell? ⟨h, 0, none⟩ = some (.pointer (some ⟨g, 0, none⟩))) (READ : ∀ w1, K1 w1 → Calls Tryd.prog 55 #[.pointer (some ⟨g, 0, none⟩), .int .i64 x, .int .i64 n8] w1 fun e w' => ∃ g' cap', e = .returned (.tuple #[.slice (some ⟨g', 0, none⟩) n8 cap', .int .i64 0]) ∧ Only [] w1 w' ∧ R w' g') (WRITE : ∀ w1 g' cap', R w1 g' → Calls Tryd.prog 43 #[.pointer (some ⟨g, 0, none⟩), .int .i64 d, .slice (some ⟨g', 0, none⟩) n8 cap'] w1 fun e w' => e = .returned (.int .i64 0) ∧ Only [gb] w1 w' ∧ K2 w') (FREE : ∀ w1, K2 w1 → Calls Tryd.prog 16 #[.pointer (some ⟨h, 0, none⟩), .int .i64 x] w1 fun e w' => e = .returned (.int .i64 0) ∧ Only [g, gb, mb] w1 w' ∧ K w') :
    Calls Tryd.prog 19 #[.pointer (some ⟨h, 0, none⟩), .int .i64 x, .int .i64 n] w fun e w' => e = .returned (.tuple #[.int .i64 d, .int .i64 0]) ∧ Only [g, gb, mb] w w' ∧ K w' := by
  have hA := ask_any H true
  have hM := may_any n w
  rw [decide_eq_true (by omega)] at hM
  have HA := Lib.hid hA
  have HM := Lib.hid hM
  have HN : Calls Tryd.prog 48 #[.int .i64 n] w fun e w' => e = .returned (.int .i64 z) ∧ w = w' := by
    have := need_any w h2
    rw [hne] at this; exact this
  have hge : ¬ (z : Int) ≤ (size : Int) := by omega
  replace HP := Lib.hid HP
  replace SZ := Lib.hid SZ
  replace HN := Lib.hid HN
  replace SZB := Lib.hid SZB
  replace AL := Lib.hid AL
  replace READ := Lib.hid READ
  replace WRITE := Lib.hid WRITE
  replace FREE := Lib.hid FREE
  replace K0 := Lib.hid K0
  have hxb : x < 80000 := by omega
  clear hA hM hne
  go_enter Tryd.func19, Tryd.ntmps19
  go_wp2_with (first
    | (go_at_call 46; (with_reducible refine HM.out.mono ?_); rintro e w' ⟨rfl, rfl⟩)
    | (go_at_call 36; refine HA.out.mono ?_; rintro e w' ⟨rfl, rfl⟩)
    | (go_at_call 50; (with_reducible refine HP.out.mono ?_); rintro e w' ⟨rfl, rfl⟩)
    | (go_at_call 48; (with_reducible refine HN.out.mono ?_); rintro e w' ⟨rfl, rfl⟩)
    | (go_at_call 51; (with_reducible refine SZ.out.mono ?_); rintro e w1 ⟨rfl, o1, H1⟩; have k0 : w1.cell? ⟨h, 0, none⟩ = some (.pointer (some ⟨g, 0, none⟩)) := (by simpa using H1.hdr.cell 0))
    | (go_at_call 42; (with_reducible refine (len_any H1).mono ?_); rintro e w' ⟨rfl, rfl⟩)
    | (go_at_call 51; (with_reducible refine (SZB.out _ H1).mono ?_); rintro e w2 ⟨rfl, o2, H2⟩)
    | (go_at_call 15; (with_reducible refine (AL.out _ (o1.trans o2 (by simp)) H2).mono ?_); rintro e w3 ⟨rfl, o3, K3⟩; have k3 := K0.out _ K3)
    | (go_at_call 55; (with_reducible refine (READ.out _ K3).mono ?_); rintro e w4 ⟨g', cap', rfl, o4, R4⟩; have k4 := o4.keep k3 (by simp))
    | (go_at_call 43; (with_reducible refine (WRITE.out _ _ _ R4).mono ?_); rintro e w5 ⟨rfl, o5, K5⟩)
    | (go_at_call 16; (with_reducible refine (FREE.out _ K5).mono ?_); rintro e w6 ⟨rfl, o6, K6⟩))
  go_ret2
  exact ⟨by simp, (((((o1.trans o2 (by simp)).mono (by simp)).trans o3 (by simp)).trans0 o4).trans o5 (by simp)).trans o6 (by simp), K6⟩
set_option maxHeartbeats 2000000 in
theorem re_yes_f (H : Me w h g gb cap mb N m) {p x size z cs n : Nat} (hx : (x : Int) - 8 = (p : Int)) (hp : p < 70000) (hs : size < 70000) (hz : z < 70000) (hcs : cs < 70000) (hN : N ≤ 65536) (h1 : 1 ≤ n) (h2 : n ≤ 65536) (hne : need n = z) {K K1 K2 : World → Prop} {R : World → Nat → Prop} {d n8 : Nat} 
    (HP : Calls Tryd.prog 50 #[.pointer (some ⟨h, 0, none⟩), .int .i64 x] w fun e w' => e = .returned (.int .i64 0) ∧ w = w') (SZ : Calls Tryd.prog 51 #[.pointer (some ⟨h, 0, none⟩), .int .i64 p] w fun e w' => e = .returned (.tuple #[.int .i64 size, .bool false]) ∧ Only [g] w w' ∧ Me w' h g gb cap mb N m)
    (hlt : ((size : Int) < (z : Int))) (hlN : (p : Int) + (size : Int) < (N : Int)) (SZB : ∀ w1, Me w1 h g gb cap mb N m → Calls Tryd.prog 51 #[.pointer (some ⟨h, 0, none⟩), .int .i64 ((p : Int) + (size : Int))] w1 fun e w' => e = .returned (.tuple #[.int .i64 cs, .bool true]) ∧ Only [g] w1 w' ∧ Me w' h g gb cap mb N m) (hsum : ¬ (z : Int) ≤ (size : Int) + (cs : Int)) (hn8 : (size : Int) - 8 = (n8 : Int)) (hdb : d < 100000) (AL : ∀ w1, Only [g] w w1 → Me w1 h g gb cap mb N m → Calls Tryd.prog 15 #[.pointer (some ⟨h, 0, none⟩), .int .i64 n] w1 fun e w' => e = .returned (.tuple #[.int .i64 d, .int .i64 0]) ∧ Only [g, gb, mb] w1 w' ∧ K1 w') (K0 : ∀ w1, K1 w1 → w1.cell? ⟨h, 0, none⟩ = some (.pointer (some ⟨g, 0, none⟩))) (READ : ∀ w1, K1 w1 → Calls Tryd.prog 55 #[.pointer (some ⟨g, 0, none⟩), .int .i64 x, .int .i64 n8] w1 fun e w' => ∃ g' cap', e = .returned (.tuple #[.slice (some ⟨g', 0, none⟩) n8 cap', .int .i64 0]) ∧ Only [] w1 w' ∧ R w' g') (WRITE : ∀ w1 g' cap', R w1 g' → Calls Tryd.prog 43 #[.pointer (some ⟨g, 0, none⟩), .int .i64 d, .slice (some ⟨g', 0, none⟩) n8 cap'] w1 fun e w' => e = .returned (.int .i64 0) ∧ Only [gb] w1 w' ∧ K2 w') (FREE : ∀ w1, K2 w1 → Calls Tryd.prog 16 #[.pointer (some ⟨h, 0, none⟩), .int .i64 x] w1 fun e w' => e = .returned (.int .i64 0) ∧ Only [g, gb, mb] w1 w' ∧ K w') :
    Calls Tryd.prog 19 #[.pointer (some ⟨h, 0, none⟩), .int .i64 x, .int .i64 n] w fun e w' => e = .returned (.tuple #[.int .i64 d, .int .i64 0]) ∧ Only [g, gb, mb] w w' ∧ K w' := by
  have hA := ask_any H true
  have hM := may_any n w
  rw [decide_eq_true (by omega)] at hM
  have HA := Lib.hid hA
  have HM := Lib.hid hM
  have HN : Calls Tryd.prog 48 #[.int .i64 n] w fun e w' => e = .returned (.int .i64 z) ∧ w = w' := by
    have := need_any w h2
    rw [hne] at this; exact this
  have hge : ¬ (z : Int) ≤ (size : Int) := by omega
  replace HP := Lib.hid HP
  replace SZ := Lib.hid SZ
  replace HN := Lib.hid HN
  replace SZB := Lib.hid SZB
  replace AL := Lib.hid AL
  replace READ := Lib.hid READ
  replace WRITE := Lib.hid WRITE
  replace FREE := Lib.hid FREE
  replace K0 := Lib.hid K0
  have hxb : x < 80000 := by omega
  clear hA hM hne
  go_enter Tryd.func19, Tryd.ntmps19
  go_wp2_with (first
    | (go_at_call 46; (with_reducible refine HM.out.mono ?_); rintro e w' ⟨rfl, rfl⟩)
    | (go_at_call 36; refine HA.out.mono ?_; rintro e w' ⟨rfl, rfl⟩)
    | (go_at_call 50; (with_reducible refine HP.out.mono ?_); rintro e w' ⟨rfl, rfl⟩)
    | (go_at_call 48; (with_reducible refine HN.out.mono ?_); rintro e w' ⟨rfl, rfl⟩)
    | (go_at_call 51; (with_reducible refine SZ.out.mono ?_); rintro e w1 ⟨rfl, o1, H1⟩; have k0 : w1.cell? ⟨h, 0, none⟩ = some (.pointer (some ⟨g, 0, none⟩)) := (by simpa using H1.hdr.cell 0))
    | (go_at_call 42; (with_reducible refine (len_any H1).mono ?_); rintro e w' ⟨rfl, rfl⟩)
    | (go_at_call 51; (with_reducible refine (SZB.out _ H1).mono ?_); rintro e w2 ⟨rfl, o2, H2⟩)
    | (go_at_call 15; (with_reducible refine (AL.out _ (o1.trans o2 (by simp)) H2).mono ?_); rintro e w3 ⟨rfl, o3, K3⟩; have k3 := K0.out _ K3)
    | (go_at_call 55; (with_reducible refine (READ.out _ K3).mono ?_); rintro e w4 ⟨g', cap', rfl, o4, R4⟩; have k4 := o4.keep k3 (by simp))
    | (go_at_call 43; (with_reducible refine (WRITE.out _ _ _ R4).mono ?_); rintro e w5 ⟨rfl, o5, K5⟩)
    | (go_at_call 16; (with_reducible refine (FREE.out _ K5).mono ?_); rintro e w6 ⟨rfl, o6, K6⟩))
  go_ret2
  exact ⟨by simp, (((((o1.trans o2 (by simp)).mono (by simp)).trans o3 (by simp)).trans0 o4).trans o5 (by simp)).trans o6 (by simp), K6⟩
end
end Go.Proofs.YthlaoanfoimkfaaDoor
namespace Go.Proofs.YthlaoanfoimkfaaDoor
open Go.RowKit
set_option linter.unusedVariables false
set_option linter.all false
set_option maxRecDepth 100000
section
variable {w w' : World} {h g gb cap mb N : Nat} {m : Nat → Nat} {S : List Nat} {B A C : List Bk} {b : Bk} {L : Nat → List Nat} {U : List Nat}
theorem Hp.size51 (H : Hp w h g gb cap mb N (A ++ b :: C) L m) (hk : b.k = 0) : Calls Tryd.prog 51 #[.pointer (some ⟨h, 0, none⟩), .int .i64 b.at'] w fun e w' => e = .returned (.tuple #[.int .i64 b.size, .bool false]) ∧ Only [g] w w' ∧ Me w' h g gb cap mb N m := by
  have hpos := H.inv.tile.pos
  exact size_any' H.me (p := b.at') (z := b.size) (k := 0) (by omega) (by omega) (by omega) (by omega) (by rw [← hk]; exact H.inv.head b (by simp) (by omega))
theorem Hp.bounds (H : Hp w h g gb cap mb N (A ++ b :: C) L m) : b.at' < 70000 ∧ b.size < 70000 ∧ b.at' + b.size ≤ N ∧ N ≤ 65536 ∧ 16 ≤ b.size ∧ 112 ≤ b.at' ∧ b.at' % 8 = 0 ∧ b.size % 8 = 0 := by
  have hpos := H.inv.tile.pos
  have := H.inv.size
  omega
theorem Hp.others (H : Hp w h g gb cap mb N (A ++ b :: C) L m) : ∀ y ∈ A ++ C, y.k ≠ 2 := fun y hy => H.all y (by rcases List.mem_append.1 hy with q | q <;> simp [q])
theorem realloc_big (H : Hp w h g gb cap mb N (A ++ b :: C) L m) (hk : b.k = 0) {n : Nat} (h1 : 1 ≤ n) (h2 : n ≤ 65536) (hz : need n ≤ b.size) :
    Calls Tryd.prog 19 #[.pointer (some ⟨h, 0, none⟩), .int .i64 (b.at' + 8 : Nat), .int .i64 n] w fun e w' => e = .returned (.tuple #[.int .i64 (b.at' + 8 : Nat), .int .i64 0]) ∧ Only [g, gb, mb] w w' ∧ ∃ m',
      Hp w' h g gb cap mb N (cutS true A b.at' b.size (need n) C L).1 (cutS true A b.at' b.size (need n) C L).2 m' ∧ ∀ x, Off (A ++ b :: C) x → (x < b.at' + need n ∨ b.at' + b.size ≤ x) → m' x = m x := by
  have hb := H.bounds
  have hn := need_is n
  have hne := H.ne
  have hac := H.others
  obtain ⟨U, hP, hU⟩ := H.pc
  have hin : b.at' + 8 ∈ U := hU.mem_iff.2 (mem_used.2 ⟨b, by simp, hk, rfl⟩)
  have hU2 : (addU U (b.at' + 8)).Perm (used A ++ (b.at' + 8) :: used C) := by
    unfold addU
    rw [if_pos hin]
    have e : used (A ++ b :: C) = used A ++ (b.at' + 8) :: used C := by rw [used_app, used_cons, if_pos hk]
    rw [← e]; exact hU
  have it := take_inv H.inv (by omega)
  refine re_big H.me (p := b.at') (x := b.at' + 8) (size := b.size) (z := need n) (cs := 0) (n := n) (by omega) (by omega) (by omega) (by omega) (by omega) (by omega) h1 h2 rfl (J := fun _ => True)
    (K := fun w' => ∃ m', Hp w' h g gb cap mb N (cutS true A b.at' b.size (need n) C L).1 (cutS true A b.at' b.size (need n) C L).2 m' ∧ ∀ x, Off (A ++ b :: C) x → (x < b.at' + need n ∨ b.at' + b.size ≤ x) → m' x = m x)
    (H.piece hk) (H.size51 hk) (by omega) fun w1 o1 M1 => ?_
  refine (cut_any (b := ⟨b.at', b.size, 2⟩) M1 (hP.only o1 (by simp; omega)) it rfl hac true hn.1 hn.2.1 (by omega)).mono ?_
  rintro e w2 ⟨rfl, o2, ⟨m2, M2, s2⟩, P2⟩
  exact ⟨rfl, o2, m2, H.cut s2.inv hac M2 P2 hU2, fun x hx hl => s2.fr x (swap_off hx (by omega)) hl⟩
theorem realloc_grow {c : Bk} {r : List Bk} (H : Hp w h g gb cap mb N (A ++ b :: c :: r) L m) (hk : b.k = 0) (hc : c.k = 1) {n : Nat} (h1 : 1 ≤ n) (h2 : n ≤ 65536) (hz : b.size < need n) (hz2 : need n ≤ b.size + c.size) :
    Calls Tryd.prog 19 #[.pointer (some ⟨h, 0, none⟩), .int .i64 (b.at' + 8 : Nat), .int .i64 n] w fun e w' => e = .returned (.tuple #[.int .i64 (b.at' + 8 : Nat), .int .i64 0]) ∧ Only [g, gb, mb] w w' ∧ ∃ m',
      Hp w' h g gb cap mb N (cutS true A b.at' (b.size + c.size) (need n) r (rmL L (cls c.size) c.at')).1 (cutS true A b.at' (b.size + c.size) (need n) r (rmL L (cls c.size) c.at')).2 m' ∧
      ∀ x, Off (A ++ b :: c :: r) x → (x < b.at' + need n ∨ b.at' + b.size + c.size ≤ x) → m' x = m x := by
  have hb := H.bounds
  have hn := need_is n
  have hne := H.ne
  have hac := H.others
  have hpos := H.inv.tile.pos
  have hat : c.at' = b.at' + b.size := hpos.2.2.2.2.2.2.1.1
  have hcm := hpos.2.2.2.2.2.2.2.2 c (by simp)
  obtain ⟨U, hP, hU⟩ := H.pc
  have hin : b.at' + 8 ∈ U := hU.mem_iff.2 (mem_used.2 ⟨b, by simp, hk, rfl⟩)
  have hU2 : (addU U (b.at' + 8)).Perm (used A ++ (b.at' + 8) :: used r) := by
    unfold addU
    rw [if_pos hin]
    have e : used (A ++ b :: c :: r) = used A ++ (b.at' + 8) :: used r := by rw [used_app, used_cons, if_pos hk, used_cons, if_neg (by omega)]
    rw [← e]; exact hU
  have it := take_inv H.inv (by omega)
  have hac2 : ∀ y ∈ A ++ r, y.k ≠ 2 := fun y hy => hac y (by rcases List.mem_append.1 hy with q | q <;> simp [q])
  refine re_grow H.me (p := b.at') (x := b.at' + 8) (size := b.size) (z := need n) (cs := c.size) (n := n) (by omega) (by omega) (by omega) (by omega) (by omega) (by omega) h1 h2 rfl
    (J := St N m (A ++ ⟨b.at', b.size, 2⟩ :: c :: r) 0 0 (A ++ ⟨b.at', b.size + c.size, 2⟩ :: r) (rmL L (cls c.size) c.at'))
    (K := fun w' => ∃ m', Hp w' h g gb cap mb N (cutS true A b.at' (b.size + c.size) (need n) r (rmL L (cls c.size) c.at')).1 (cutS true A b.at' (b.size + c.size) (need n) r (rmL L (cls c.size) c.at')).2 m' ∧
      ∀ x, Off (A ++ b :: c :: r) x → (x < b.at' + need n ∨ b.at' + b.size + c.size ≤ x) → m' x = m x)
    (H.piece hk) (H.size51 hk) (by omega) (by omega) (fun w1 M1 => sizeB M1 H.inv (k := 1) hc (by omega)) (by omega)
    (fun w1 M1 => stage_back (b := ⟨b.at', b.size, 2⟩) M1 it rfl hc) fun w1 m1 o1 M1 J1 => ?_
  rw [show ((b.size : Int) + (c.size : Int)) = ((b.size + c.size : Nat) : Int) by omega]
  refine (cut_any (b := ⟨b.at', b.size + c.size, 2⟩) M1 (hP.only o1 (by simp; omega)) J1.inv rfl hac2 true hn.1 hn.2.1 (by omega)).mono ?_
  rintro e w2 ⟨rfl, o2, ⟨m2, M2, s2⟩, P2⟩
  refine ⟨rfl, o2, m2, H.cut s2.inv hac2 M2 P2 hU2, fun x hx hl => ?_⟩
  have hx1 := swap_off (k := 2) hx (by omega)
  refine (s2.fr x ?_ (by rcases hl with q | q; exact .inl q; exact .inr (by show b.at' + (b.size + c.size) ≤ x; omega))).trans (J1.fr x hx1 (.inr (Nat.zero_le x)))
  exact hx1.sub fun y hy => by
    rcases List.mem_append.1 hy with hy | hy
    · exact ⟨y, by simp [hy], rfl, id⟩
    · rcases List.mem_cons.1 hy with rfl | hy
      · exact ⟨⟨b.at', b.size, 2⟩, by simp, rfl, id⟩
      · exact ⟨y, by simp [hy], rfl, id⟩
/-- What stands behind a block that cannot grow in its place. -/
def Stuck (b : Bk) (C : List Bk) (z : Nat) : Prop := C = [] ∨ ∃ c r, C = c :: r ∧ (c.k = 0 ∨ c.k = 1 ∧ b.size + c.size < z)
theorem realloc_full (H : Hp w h g gb cap mb N (A ++ b :: C) L m) (hk : b.k = 0) {n : Nat} (h1 : 1 ≤ n) (h2 : n ≤ 65536) (hz : b.size < need n) (hs : Stuck b C (need n)) (hc : ∀ c, floor (need n) ≤ c → L c = []) :
    Calls Tryd.prog 19 #[.pointer (some ⟨h, 0, none⟩), .int .i64 (b.at' + 8 : Nat), .int .i64 n] w fun e w' => e = .returned (.tuple #[.int .i64 0, .int .i64 5]) ∧ Only [g, gb, mb] w w' ∧ Hp w' h g gb cap mb N (A ++ b :: C) L m := by
  have hb := H.bounds
  have hn := need_is n
  have AL : ∀ w1, Only [g] w w1 → Me w1 h g gb cap mb N m → Calls Tryd.prog 15 #[.pointer (some ⟨h, 0, none⟩), .int .i64 n] w1 fun e w' => e = .returned (.tuple #[.int .i64 0, .int .i64 5]) ∧ Only [g] w1 w' ∧ Hp w' h g gb cap mb N (A ++ b :: C) L m := fun w1 o1 M1 => alloc_no (H.read o1 M1) h1 h2 hc
  rcases hs with rfl | ⟨c, r, rfl, hc0 | ⟨hc1, hlt⟩⟩
  · have he : b.at' + b.size = N := H.inv.tile.pos.2.2.2.2.2.2.1
    exact re_no_e H.me (p := b.at') (x := b.at' + 8) (size := b.size) (z := need n) (cs := 0) (n := n) (by omega) (by omega) (by omega) (by omega) (by omega) (by omega) h1 h2 rfl (H.piece hk) (H.size51 hk) (by omega) (by omega) AL
  · have hcm := H.inv.tile.pos.2.2.2.2.2.2.2.2 c (by simp)
    exact re_no_u H.me (p := b.at') (x := b.at' + 8) (size := b.size) (z := need n) (cs := c.size) (n := n) (by omega) (by omega) (by omega) (by omega) (by omega) (by omega) h1 h2 rfl (H.piece hk) (H.size51 hk) (by omega) (by omega) (fun w1 M1 => sizeB M1 H.inv (k := 0) hc0 (by omega)) AL
  · have hcm := H.inv.tile.pos.2.2.2.2.2.2.2.2 c (by simp)
    exact re_no_f H.me (p := b.at') (x := b.at' + 8) (size := b.size) (z := need n) (cs := c.size) (n := n) (by omega) (by omega) (by omega) (by omega) (by omega) (by omega) h1 h2 rfl (H.piece hk) (H.size51 hk) (by omega) (by omega) (fun w1 M1 => sizeB M1 H.inv (k := 1) hc1 (by omega)) (by omega) AL
theorem Off.of_used {N : Nat} (ht : Tile 112 B N) {b : Bk} (hb : b ∈ B) (hk : b.k = 0) {x : Nat} (h1 : b.at' + 8 ≤ x) (h2 : x < b.at' + b.size) : Off B x := Off.used ht hb (by omega) h1 h2
set_option maxHeartbeats 1000000 in
theorem realloc_moved (hEnv : Env w) (hg0 : g ≠ 0) (H : Hp w h g gb cap mb N (A ++ b :: C) L m) (hk : b.k = 0) {n : Nat} (h1 : 1 ≤ n) (h2 : n ≤ 65536) (hz : b.size < need n) (hs : Stuck b C (need n))
    {A' C' : List Bk} {f : Bk} {c : Nat} (hB : A ++ b :: C = A' ++ f :: C') (hf : f.k = 1) (hc : FirstC L (floor (need n)) c) (hd : (L c).headD 0 = f.at')
    {A1 C1 : List Bk} (hB1 : (cutS false A' f.at' f.size (need n) C' (rmL L (cls f.size) f.at')).1 = A1 ++ b :: C1) (hfs : need n ≤ f.size) :
    Calls Tryd.prog 19 #[.pointer (some ⟨h, 0, none⟩), .int .i64 (b.at' + 8 : Nat), .int .i64 n] w fun e w' => e = .returned (.tuple #[.int .i64 (f.at' + 8 : Nat), .int .i64 0]) ∧ Only [g, gb, mb] w w' ∧ ∃ m1 m',
      Hp w' h g gb cap mb N (freeS A1 b.at' b.size C1 (cutS false A' f.at' f.size (need n) C' (rmL L (cls f.size) f.at')).2).1 (freeS A1 b.at' b.size C1 (cutS false A' f.at' f.size (need n) C' (rmL L (cls f.size) f.at')).2).2 m' ∧
      (∀ x, Off (A ++ b :: C) x → (x < f.at' ∨ f.at' + f.size ≤ x) → m1 x = m x) ∧ (∀ x, Off (A1 ++ b :: C1) x → (x < b.at' ∨ b.at' + b.size ≤ x) → m' x = copyW m1 (b.at' + 8) (f.at' + 8) (b.size - 8) x) := by
  have hb := H.bounds
  have hn := need_is n
  have hne := H.ne
  have H' := H
  rw [hB] at H'
  have hfb := H'.bounds
  -- the new block
  have hnew : ∃ s, (⟨f.at', s, 0⟩ : Bk) ∈ A1 ++ b :: C1 ∧ need n ≤ s := by
    rw [← hB1]
    unfold cutS
    by_cases hlt : f.size - need n < 16
    · rw [if_pos hlt]
      exact ⟨f.size, by simp, hfs⟩
    · rw [if_neg hlt]
      exact ⟨need n, by simp [putS], Nat.le_refl _⟩
  obtain ⟨s, hnb, hsz⟩ := hnew
  let L1 := (cutS false A' f.at' f.size (need n) C' (rmL L (cls f.size) f.at')).2
  have AL : ∀ w1, Only [g] w w1 → Me w1 h g gb cap mb N m → Calls Tryd.prog 15 #[.pointer (some ⟨h, 0, none⟩), .int .i64 n] w1 fun e w' => e = .returned (.tuple #[.int .i64 (f.at' + 8 : Nat), .int .i64 0]) ∧ Only [g, gb, mb] w1 w' ∧
      ∃ m1, Hp w' h g gb cap mb N (A1 ++ b :: C1) L1 m1 ∧ (∀ x, Off (A ++ b :: C) x → (x < f.at' ∨ f.at' + f.size ≤ x) → m1 x = m x) := fun w1 o1 M1 => by
    have Hr := H.read o1 M1
    rw [hB] at Hr ⊢
    rw [← hB1]
    exact alloc_yes (hEnv.only o1 (by simp; omega)) hg0 Hr hf h1 h2 hc hd
  have key : Calls Tryd.prog 19 #[.pointer (some ⟨h, 0, none⟩), .int .i64 (b.at' + 8 : Nat), .int .i64 n] w fun e w' => e = .returned (.tuple #[.int .i64 (f.at' + 8 : Nat), .int .i64 0]) ∧ Only [g, gb, mb] w w' ∧ ∃ m1 m',
      Hp w' h g gb cap mb N (freeS A1 b.at' b.size C1 L1).1 (freeS A1 b.at' b.size C1 L1).2 m' ∧
      (∀ x, Off (A ++ b :: C) x → (x < f.at' ∨ f.at' + f.size ≤ x) → m1 x = m x) ∧ (∀ x, Off (A1 ++ b :: C1) x → (x < b.at' ∨ b.at' + b.size ≤ x) → m' x = copyW m1 (b.at' + 8) (f.at' + 8) (b.size - 8) x) := by
    have K0 : ∀ w1, (∃ m1, Hp w1 h g gb cap mb N (A1 ++ b :: C1) L1 m1 ∧ (∀ x, Off (A ++ b :: C) x → (x < f.at' ∨ f.at' + f.size ≤ x) → m1 x = m x)) → w1.cell? ⟨h, 0, none⟩ = some (.pointer (some ⟨g, 0, none⟩)) := fun w1 ⟨m1, K, _⟩ => by simpa using K.me.hdr.cell 0
    have READ : ∀ w1, (∃ m1, Hp w1 h g gb cap mb N (A1 ++ b :: C1) L1 m1 ∧ (∀ x, Off (A ++ b :: C) x → (x < f.at' ∨ f.at' + f.size ≤ x) → m1 x = m x)) → Calls Tryd.prog 55 #[.pointer (some ⟨g, 0, none⟩), .int .i64 (b.at' + 8 : Nat), .int .i64 (b.size - 8 : Nat)] w1 fun e w' => ∃ g' cap', e = .returned (.tuple #[.slice (some ⟨g', 0, none⟩) (b.size - 8) cap', .int .i64 0]) ∧ Only [] w1 w' ∧
        (fun w' g' => ∃ m1 ds, Hp w' h g gb cap mb N (A1 ++ b :: C1) L1 m1 ∧ (∀ x, Off (A ++ b :: C) x → (x < f.at' ∨ f.at' + f.size ≤ x) → m1 x = m x) ∧ Src w' (some ⟨g', 0, none⟩) ds ∧ ds.length = b.size - 8 ∧ ∀ y, y % 4 = 0 → y < b.size - 8 → wd ds y = m1 (b.at' + 8 + y)) w' g' := fun w1 ⟨m1, K, fr⟩ => by
      refine (read_me K.me (o := b.at' + 8) (n := b.size - 8) (by omega) (by omega) (by omega)).mono ?_
      rintro e w2 ⟨g', cap', ds, rfl, o2, hs2, hl2, hw2⟩
      exact ⟨g', cap', rfl, o2, m1, ds, K.only0 o2, fr, hs2, hl2, hw2⟩
    have WRITE : ∀ w1 g' cap', (fun w' g' => ∃ m1 ds, Hp w' h g gb cap mb N (A1 ++ b :: C1) L1 m1 ∧ (∀ x, Off (A ++ b :: C) x → (x < f.at' ∨ f.at' + f.size ≤ x) → m1 x = m x) ∧ Src w' (some ⟨g', 0, none⟩) ds ∧ ds.length = b.size - 8 ∧ ∀ y, y % 4 = 0 → y < b.size - 8 → wd ds y = m1 (b.at' + 8 + y)) w1 g' →
        Calls Tryd.prog 43 #[.pointer (some ⟨g, 0, none⟩), .int .i64 (f.at' + 8 : Nat), .slice (some ⟨g', 0, none⟩) (b.size - 8) cap'] w1 fun e w' => e = .returned (.int .i64 0) ∧ Only [gb] w1 w' ∧
        ∃ m1 m2, Hp w' h g gb cap mb N (A1 ++ b :: C1) L1 m2 ∧ (∀ x, Off (A ++ b :: C) x → (x < f.at' ∨ f.at' + f.size ≤ x) → m1 x = m x) ∧ m2 = copyW m1 (b.at' + 8) (f.at' + 8) (b.size - 8) := fun w1 g' cap' ⟨m1, ds, K, fr, hs2, hl2, hw2⟩ => by
      have ht := Tile.mem K.inv.tile _ hnb
      simp only at ht
      refine (write_me K.me (o := f.at' + 8) (n := b.size - 8) (src := b.at' + 8) (by omega) (by omega) (by omega) (by omega) hl2 hs2 hw2).mono ?_
      rintro e w2 ⟨rfl, o2, M2⟩
      have hne := K.ne
      obtain ⟨U, hP, hU⟩ := K.pc
      refine ⟨rfl, o2, m1, _, ⟨M2, K.inv.off fun x hx => ?_, K.all, U, hP.only o2 (by simp; omega), hU⟩, fr, rfl⟩
      unfold copyW
      rw [if_neg]
      rintro ⟨q1, q2⟩
      exact hx (Off.of_used K.inv.tile hnb rfl q1 (by show x < f.at' + s; omega))
    have FREE : ∀ w1, (∃ m1 m2, Hp w1 h g gb cap mb N (A1 ++ b :: C1) L1 m2 ∧ (∀ x, Off (A ++ b :: C) x → (x < f.at' ∨ f.at' + f.size ≤ x) → m1 x = m x) ∧ m2 = copyW m1 (b.at' + 8) (f.at' + 8) (b.size - 8)) → Calls Tryd.prog 16 #[.pointer (some ⟨h, 0, none⟩), .int .i64 (b.at' + 8 : Nat)] w1 fun e w' => e = .returned (.int .i64 0) ∧ Only [g, gb, mb] w1 w' ∧ ∃ m1 m',
      Hp w' h g gb cap mb N (freeS A1 b.at' b.size C1 L1).1 (freeS A1 b.at' b.size C1 L1).2 m' ∧
      (∀ x, Off (A ++ b :: C) x → (x < f.at' ∨ f.at' + f.size ≤ x) → m1 x = m x) ∧ (∀ x, Off (A1 ++ b :: C1) x → (x < b.at' ∨ b.at' + b.size ≤ x) → m' x = copyW m1 (b.at' + 8) (f.at' + 8) (b.size - 8) x) := fun w1 ⟨m1, m2, K, fr, e2⟩ => by
      refine (free_yes K hk).mono ?_
      rintro e w2 ⟨rfl, o2, m3, H3, f3⟩
      exact ⟨rfl, o2, m1, m3, H3, fr, fun x hx hl => by rw [← e2]; exact f3 x hx hl⟩
    rcases hs with rfl | ⟨c', r, rfl, hc0 | ⟨hc1, hlt⟩⟩
    · have he : b.at' + b.size = N := H.inv.tile.pos.2.2.2.2.2.2.1
      exact re_yes_e H.me (p := b.at') (x := b.at' + 8) (size := b.size) (z := need n) (cs := 0) (n := n) (by omega) (by omega) (by omega) (by omega) (by omega) (by omega) h1 h2 rfl (H.piece hk) (H.size51 hk) (by omega) (by omega) (by omega) (by omega) AL K0 READ WRITE FREE
    · have hcm := H.inv.tile.pos.2.2.2.2.2.2.2.2 c' (by simp)
      exact re_yes_u H.me (p := b.at') (x := b.at' + 8) (size := b.size) (z := need n) (cs := c'.size) (n := n) (by omega) (by omega) (by omega) (by omega) (by omega) (by omega) h1 h2 rfl (H.piece hk) (H.size51 hk) (by omega) (by omega) (fun w1 M1 => sizeB M1 H.inv (k := 0) hc0 (by omega)) (by omega) (by omega) AL K0 READ WRITE FREE
    · have hcm := H.inv.tile.pos.2.2.2.2.2.2.2.2 c' (by simp)
      exact re_yes_f H.me (p := b.at') (x := b.at' + 8) (size := b.size) (z := need n) (cs := c'.size) (n := n) (by omega) (by omega) (by omega) (by omega) (by omega) (by omega) h1 h2 rfl (H.piece hk) (H.size51 hk) (by omega) (by omega) (fun w1 M1 => sizeB M1 H.inv (k := 1) hc1 (by omega)) (by omega) (by omega) (by omega) AL K0 READ WRITE FREE
  exact key
end
end Go.Proofs.YthlaoanfoimkfaaDoor
