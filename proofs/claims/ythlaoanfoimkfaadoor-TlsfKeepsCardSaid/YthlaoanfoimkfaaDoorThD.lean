/- Tlsf: a heap whole; Alloc; Free, Size. No condition but what each theorem says. -/
import Derived.Test.YthlaoanfoimkfaaDoorTfB
namespace Go.Proofs.YthlaoanfoimkfaaDoor
open Go.RowKit
set_option linter.unusedVariables false
set_option linter.all false
set_option maxRecDepth 100000
theorem andNot_pow (x k : Nat) : x ^^^ (x &&& (2 ^ k - 1)) = x / 2 ^ k * 2 ^ k := by
  apply Nat.eq_of_testBit_eq
  intro j
  rw [high_bit, Nat.testBit_xor, Nat.testBit_and, Nat.testBit_two_pow_sub_one]
  by_cases h : j < k
  · have : ¬ k ≤ j := by omega
    simp [h, this]
  · have : k ≤ j := by omega
    simp [h, this]
section
variable {w w' : World} {h g gb cap mb N : Nat} {m : Nat → Nat} {S : List Nat}
theorem need_any {n : Nat} (w : World) (h1 : n ≤ 65536) :
    Calls Tryd.prog 48 #[.int .i64 n] w fun e w' => e = .returned (.int .i64 (need n)) ∧ w = w' := by
  have ha : bits .andNot .i64 ((n : Int) + 7) 7 = (((n + 7) / 8 * 8 : Nat) : Int) := by
    have := i64_andNot (n + 7) 7 (by omega) (by omega)
    rw [show (7 : Nat) = 2 ^ 3 - 1 from rfl, andNot_pow, show 2 ^ 3 = 8 from rfl] at this
    rw [← this]; rfl
  have hm : (max 16 ((((n + 7) / 8 * 8 : Nat) : Int) + 8) : Int) = (need n : Nat) := by unfold need; omega
  have hb : (n + 7) / 8 * 8 < 70000 := by omega
  generalize (n + 7) / 8 * 8 = q at *
  generalize need n = r at *
  go_enter Tryd.func48, Tryd.ntmps48
  go_wp2
  go_ret
  exact ⟨rfl, rfl⟩
theorem may_any (n : Int) (w : World) : Calls Tryd.prog 46 #[.int .i64 n] w fun e w' => e = .returned (.bool (decide (1 ≤ n ∧ n ≤ 65536))) ∧ w = w' := by
  by_cases h1 : 1 ≤ n
  · by_cases h2 : n ≤ 65536
    · go_enter Tryd.func46, Tryd.ntmps46
      go_wp2
      go_ret
      exact ⟨by simp [h1, h2], rfl⟩
    · go_enter Tryd.func46, Tryd.ntmps46
      go_wp2
      go_ret
      exact ⟨by simp [h1, h2], rfl⟩
  · go_enter Tryd.func46, Tryd.ntmps46
    go_wp2
    go_ret
    exact ⟨by simp; omega, rfl⟩
theorem ask_any (H : Me w h g gb cap mb N m) (q : Bool) : Calls Tryd.prog 36 #[.pointer (some ⟨h, 0, none⟩), .bool q] w fun e w' => e = .returned (.int .i64 (if q then 0 else 2)) ∧ w = w' := by
  have HT := Lib.hid (there_any H)
  cases q
  all_goals
    go_enter Tryd.func36, Tryd.ntmps36
    go_wp2_with (go_at_call 56; (with_reducible refine HT.out.mono ?_); rintro e w' ⟨rfl, rfl⟩)
    go_ret
    exact ⟨by simp, rfl⟩
end
end Go.Proofs.YthlaoanfoimkfaaDoor
namespace Go.Proofs.YthlaoanfoimkfaaDoor
open Go.RowKit
set_option linter.unusedVariables false
set_option linter.all false
set_option maxRecDepth 100000
/-- A heap in memory: its words, its blocks and lists, its pieces. -/
structure Hp (w : World) (h g gb cap mb N : Nat) (B : List Bk) (L : Nat → List Nat) (m : Nat → Nat) : Prop where
  me : Me w h g gb cap mb N m
  inv : Inv N m B L
  all : ∀ b ∈ B, b.k ≠ 2
  pc : ∃ U, Pc w mb U ∧ U.Perm (used B)
section
variable {w w' : World} {h g gb cap mb N : Nat} {m : Nat → Nat} {S : List Nat} {B A C : List Bk} {b : Bk} {L : Nat → List Nat} {U : List Nat}
theorem Hp.only (H : Hp w h g gb cap mb N B L m) (ho : Only S w w') (h1 : h ∉ S) (h2 : g ∉ S) (h3 : gb ∉ S) (h4 : mb ∉ S) : Hp w' h g gb cap mb N B L m := by
  obtain ⟨U, hP, hU⟩ := H.pc
  exact ⟨H.me.only ho h1 h2 h3, H.inv, H.all, U, hP.only ho h4, hU⟩
theorem Hp.only0 (H : Hp w h g gb cap mb N B L m) (ho : Only [] w w') : Hp w' h g gb cap mb N B L m := H.only ho (by simp) (by simp) (by simp) (by simp)
theorem Hp.pos (H : Hp w h g gb cap mb N B L m) : 0 < N := by have := H.inv.size; omega
theorem Hp.ne (H : Hp w h g gb cap mb N B L m) : h ≠ g ∧ h ≠ gb ∧ mb ≠ h ∧ mb ≠ g ∧ mb ≠ gb := by
  obtain ⟨U, hP, hU⟩ := H.pc
  have := hP.apart H.me H.pos
  have := H.me.ne
  omega
theorem Hp.lt (H : Hp w h g gb cap mb N B L m) : h < w.heap.size ∧ g < w.heap.size ∧ gb < w.heap.size ∧ mb < w.heap.size := by
  obtain ⟨U, hP, hU⟩ := H.pc
  exact ⟨H.me.hdr.lt, H.me.glt.1, H.me.glt.2, hP.1.lt⟩
/-- Behind a step that only reads. -/
theorem Hp.read (H : Hp w h g gb cap mb N B L m) (ho : Only [g] w w') (hM : Me w' h g gb cap mb N m) : Hp w' h g gb cap mb N B L m := by
  obtain ⟨U, hP, hU⟩ := H.pc
  have := H.ne
  exact ⟨hM, H.inv, H.all, U, hP.only ho (by simp; omega), hU⟩
/-- The block that is found. -/
theorem find_has (hI : Inv N m B L) {c : Nat} (hc : L c ≠ []) : ∃ A b C, B = A ++ b :: C ∧ b.k = 1 ∧ (L c).headD 0 = b.at' ∧ cls b.size = c := by
  obtain ⟨a, r, hl⟩ := List.exists_cons_of_ne_nil hc
  obtain ⟨b, hb, e1, e2, e3⟩ := (hI.mem c a).1 (by rw [hl]; simp)
  obtain ⟨A, C, rfl⟩ := List.append_of_mem hb
  exact ⟨A, b, C, rfl, e2, by rw [hl, e1]; rfl, e3⟩
theorem first_or (L : Nat → List Nat) (hL : ∀ c, 24 ≤ c → L c = []) (c0 : Nat) : (∀ c, c0 ≤ c → L c = []) ∨ ∃ c, FirstC L c0 c := by
  by_cases h : ∃ c, c0 ≤ c ∧ L c ≠ []
  · right
    obtain ⟨c, h1, h2⟩ := h
    have key : ∀ n c, c < n → c0 ≤ c → L c ≠ [] → ∃ c, FirstC L c0 c := by
      intro n
      induction n with
      | zero => intro c hc; omega
      | succ n ih =>
        intro c hc h1 h2
        by_cases hx : ∃ j, c0 ≤ j ∧ j < c ∧ L j ≠ []
        · obtain ⟨j, j1, j2, j3⟩ := hx
          exact ih j (by omega) j1 j3
        · refine ⟨c, h1, h2, fun j j1 j2 => ?_⟩
          cases hl : L j with
          | nil => rfl
          | cons a r => exact absurd ⟨j, j1, j2, by simp [hl]⟩ hx
    exact key (c + 1) c (by omega) h1 h2
  · left
    intro c hc
    cases hl : L c with
    | nil => rfl
    | cons a r => exact absurd ⟨c, hc, by simp [hl]⟩ h
set_option maxHeartbeats 2000000 in
theorem alloc_bad (H : Hp w h g gb cap mb N B L m) {n : Int} (hn : ¬ (1 ≤ n ∧ n ≤ 65536)) :
    Calls Tryd.prog 15 #[.pointer (some ⟨h, 0, none⟩), .int .i64 n] w fun e w' => e = .returned (.tuple #[.int .i64 0, .int .i64 2]) ∧ w = w' := by
  have hA := ask_any H.me false
  have hM := may_any n w
  rw [decide_eq_false hn] at hM
  have HA := Lib.hid hA
  have HM := Lib.hid hM
  clear H hA hM hn
  go_enter Tryd.func15, Tryd.ntmps15
  go_wp2_with (first
    | (go_at_call 46; (with_reducible refine HM.out.mono ?_); rintro e w' ⟨rfl, rfl⟩)
    | (go_at_call 36; refine HA.out.mono ?_; rintro e w' ⟨rfl, rfl⟩))
  go_ret2
  exact ⟨by simp, rfl⟩
set_option maxHeartbeats 2000000 in
theorem alloc_no (H : Hp w h g gb cap mb N B L m) {n : Nat} (h1 : 1 ≤ n) (h2 : n ≤ 65536) (hc : ∀ c, floor (need n) ≤ c → L c = []) :
    Calls Tryd.prog 15 #[.pointer (some ⟨h, 0, none⟩), .int .i64 n] w fun e w' => e = .returned (.tuple #[.int .i64 0, .int .i64 5]) ∧ Only [g] w w' ∧ Hp w' h g gb cap mb N B L m := by
  have hA := ask_any H.me true
  have hM := may_any n w
  rw [decide_eq_true (by omega)] at hM
  have hn := need_is n
  have hF := find_no H.me H.inv hn.1 (by have := hn.2.2.2 h2; omega) hc
  have HA := Lib.hid hA
  have HM := Lib.hid hM
  have HN := Lib.hid (need_any w h2)
  have HF := Lib.hid hF
  have HH := Lib.hid H
  clear H hA hM hn hF hc
  go_enter Tryd.func15, Tryd.ntmps15
  go_wp2_with (first
    | (go_at_call 46; (with_reducible refine HM.out.mono ?_); rintro e w' ⟨rfl, rfl⟩)
    | (go_at_call 36; refine HA.out.mono ?_; rintro e w' ⟨rfl, rfl⟩)
    | (go_at_call 48; (with_reducible refine HN.out.mono ?_); rintro e w' ⟨rfl, rfl⟩)
    | (go_at_call 47; (with_reducible refine HF.out.mono ?_); rintro e w1 ⟨rfl, o1, H1⟩))
  go_ret2
  exact ⟨by simp, o1, HH.out.read o1 H1⟩
/-- What stands of a heap when a block in nobody's hands has been cut. -/
theorem Hp.cut (H : Hp w h g gb cap mb N B L m) {fr : Bool} {p size z : Nat} {L' L'' : Nat → List Nat} {m' : Nat → Nat} {U' : List Nat} (hI : Inv N m' (cutS fr A p size z C L').1 L'') (hac : ∀ y ∈ A ++ C, y.k ≠ 2) (hM : Me w' h g gb cap mb N m') (hP : Pc w' mb U') (hU : U'.Perm (used A ++ (p + 8) :: used C)) :
    Hp w' h g gb cap mb N (cutS fr A p size z C L').1 L'' m' := by
  have hu := cutS_used fr A p size z C L'
  refine ⟨hM, hI, fun y hy => ?_, U', hP, by rw [hu.1]; exact hU⟩
  rcases hu.2 y hy with q | q | q
  · exact hac y q
  · omega
  · omega
set_option maxHeartbeats 2000000 in
theorem alloc_yes (hEnv : Env w) (hg0 : g ≠ 0) (H : Hp w h g gb cap mb N (A ++ b :: C) L m) (hk : b.k = 1) {n c : Nat} (h1 : 1 ≤ n) (h2 : n ≤ 65536) (hc : FirstC L (floor (need n)) c) (hd : (L c).headD 0 = b.at') :
    Calls Tryd.prog 15 #[.pointer (some ⟨h, 0, none⟩), .int .i64 n] w fun e w' => e = .returned (.tuple #[.int .i64 (b.at' + 8 : Nat), .int .i64 0]) ∧ Only [g, gb, mb] w w' ∧ ∃ m',
      Hp w' h g gb cap mb N (cutS false A b.at' b.size (need n) C (rmL L (cls b.size) b.at')).1 (cutS false A b.at' b.size (need n) C (rmL L (cls b.size) b.at')).2 m' ∧
      ∀ x, Off (A ++ b :: C) x → (x < b.at' ∨ b.at' + b.size ≤ x) → m' x = m x := by
  have hA := ask_any H.me true
  have hM := may_any n w
  rw [decide_eq_true (by omega)] at hM
  have hn := need_is n
  have hz2 := hn.2.2.2 h2
  have hpos := H.inv.tile.pos
  have hF := find_yes hEnv hg0 H.me H.inv hk hn.1 (by omega) hc hd
  have hac : ∀ y ∈ A ++ C, y.k ≠ 2 := fun y hy => H.all y (by rcases List.mem_append.1 hy with q | q <;> simp [q])
  obtain ⟨U, hP, hU⟩ := H.pc
  have hne := H.ne
  have hnot : b.at' + 8 ∉ U := fun hx => by
    have := hU.mem_iff.1 hx
    obtain ⟨y, hy, e1, e2⟩ := mem_used.1 this
    have := H.inv.tile.inj hy (show b ∈ A ++ b :: C by simp) (by omega)
    subst this
    omega
  have hadd : addU U (b.at' + 8) = (b.at' + 8) :: U := by unfold addU; rw [if_neg hnot]
  have hperm : (addU U (b.at' + 8)).Perm (used A ++ (b.at' + 8) :: used C) := by
    rw [hadd]
    have e : used (A ++ b :: C) = used A ++ used C := by rw [used_app, used_cons, if_neg (by omega)]
    rw [e] at hU
    exact (hU.cons _).trans List.perm_middle.symm
  have HC : Hid (∀ w1 m1, Pc w1 mb U → Me w1 h g gb cap mb N m1 → Inv N m1 (A ++ ⟨b.at', b.size, 2⟩ :: C) (rmL L (cls b.size) b.at') → Calls Tryd.prog 49 #[.pointer (some ⟨h, 0, none⟩), .int .i64 b.at', .int .i64 b.size, .int .i64 (need n), .func (.func 45) #[.pointer (some ⟨h, 0, none⟩)] #[]] w1 fun e w' => e = .returned (.int .i64 (b.at' + 8 : Nat)) ∧ Only [g, gb, mb] w1 w' ∧
      (∃ m', Me w' h g gb cap mb N m' ∧ St N m1 (A ++ ⟨b.at', b.size, 2⟩ :: C) (b.at' + need n) (b.at' + b.size) (cutS false A b.at' b.size (need n) C (rmL L (cls b.size) b.at')).1 (cutS false A b.at' b.size (need n) C (rmL L (cls b.size) b.at')).2 m') ∧ Pc w' mb (addU U (b.at' + 8))) := Lib.hid fun w1 m1 P1 M1 I1 =>
    cut_any (b := ⟨b.at', b.size, 2⟩) M1 P1 I1 rfl hac false hn.1 hn.2.1 (by omega)
  have HA := Lib.hid hA
  have HM := Lib.hid hM
  have HN : Hid (∀ w, Calls Tryd.prog 48 #[.int .i64 n] w fun e w' => e = .returned (.int .i64 (need n)) ∧ w = w') := Lib.hid fun w => need_any w h2
  have HF := Lib.hid hF
  have HH := Lib.hid H
  have HP := Lib.hid hP
  clear H hA hM hn hF hc hd hpos hac hP hU hnot hadd hEnv hz2
  generalize need n = z at *
  go_enter Tryd.func15, Tryd.ntmps15
  go_wp2_with (first
    | (go_at_call 46; (with_reducible refine HM.out.mono ?_); rintro e w' ⟨rfl, rfl⟩)
    | (go_at_call 36; refine HA.out.mono ?_; rintro e w' ⟨rfl, rfl⟩)
    | (go_at_call 48; (with_reducible refine (HN.out _).mono ?_); rintro e w' ⟨rfl, rfl⟩)
    | (go_at_call 47; (with_reducible refine HF.out.mono ?_); rintro e w1 ⟨rfl, o1, m1, H1, I1, f1⟩)
    | (go_at_call 49; (with_reducible refine (HC.out _ _ (HP.out.only o1 (by simp; omega)) H1 I1).mono ?_); rintro e w2 ⟨rfl, o2, ⟨m2, H2, s2⟩, P2⟩))
  go_ret2
  refine ⟨by simp, (o1.mono (by simp)).trans o2 (by simp), m2, HH.out.cut s2.inv (fun y hy => HH.out.all y (by rcases List.mem_append.1 hy with q | q <;> simp [q])) H2 P2 hperm, fun x hx hl => ?_⟩
  exact (s2.fr x (hx.sub fun y hy => by
    rcases List.mem_append.1 hy with hy | hy
    · exact ⟨y, by simp [hy], rfl, id⟩
    · rcases List.mem_cons.1 hy with rfl | hy
      · exact ⟨b, by simp, rfl, fun h1 => absurd h1 (by simp)⟩
      · exact ⟨y, by simp [hy], rfl, id⟩) (by omega)).trans (f1 x hx)
end
end Go.Proofs.YthlaoanfoimkfaaDoor
namespace Go.Proofs.YthlaoanfoimkfaaDoor
open Go.RowKit
set_option linter.unusedVariables false
set_option linter.all false
set_option maxRecDepth 100000
section
variable {w w' : World} {h g gb cap mb N : Nat} {m : Nat → Nat} {S : List Nat} {B A C : List Bk} {b : Bk} {L : Nat → List Nat} {U : List Nat}
theorem piece_yes (H : Me w h g gb cap mb N m) (hP : Pc w mb U) {x : Nat} (hx : x ∈ U) (hb : x < 100000) : Calls Tryd.prog 50 #[.pointer (some ⟨h, 0, none⟩), .int .i64 x] w fun e w' => e = .returned (.int .i64 0) ∧ w = w' := by
  have HT := Lib.hid (there_any H)
  have k1 : w.cell? ⟨h, 1, none⟩ = some (.map (some mb)) := by simpa using H.hdr.cell 1
  have hl := hP.lookIn hx (by omega)
  clear H hP
  go_enter Tryd.func50, Tryd.ntmps50
  go_wp2_with (first
    | (go_at_call 56; (with_reducible refine HT.out.mono ?_); rintro e w' ⟨rfl, rfl⟩)
    | (rw [hl]; simp only [Result.andThen]))
  go_ret
  exact ⟨rfl, rfl⟩
theorem piece_no (H : Me w h g gb cap mb N m) (hP : Pc w mb U) {x : Int} (hx : ∀ y ∈ U, x ≠ (y : Int)) (hb : -9223372036854775808 ≤ x ∧ x ≤ 9223372036854775807) : Calls Tryd.prog 50 #[.pointer (some ⟨h, 0, none⟩), .int .i64 x] w fun e w' => e = .returned (.int .i64 6) ∧ w = w' := by
  have HT := Lib.hid (there_any H)
  have k1 : w.cell? ⟨h, 1, none⟩ = some (.map (some mb)) := by simpa using H.hdr.cell 1
  have hl := hP.lookOut hx hb
  clear H hP hx
  go_enter Tryd.func50, Tryd.ntmps50
  go_wp2_with (first
    | (go_at_call 56; (with_reducible refine HT.out.mono ?_); rintro e w' ⟨rfl, rfl⟩)
    | (rw [hl]; simp only [Result.andThen]))
  go_ret
  exact ⟨rfl, rfl⟩
/-- An offset that is no piece's. -/
def NoPiece (B : List Bk) (x : Int) : Prop := ∀ y ∈ used B, x ≠ (y : Int)
theorem Hp.noPiece (H : Hp w h g gb cap mb N B L m) {x : Int} (hx : NoPiece B x) (hb : -9223372036854775808 ≤ x ∧ x ≤ 9223372036854775807) : Calls Tryd.prog 50 #[.pointer (some ⟨h, 0, none⟩), .int .i64 x] w fun e w' => e = .returned (.int .i64 6) ∧ w = w' := by
  obtain ⟨U, hP, hU⟩ := H.pc
  exact piece_no H.me hP (fun y hy => hx y (hU.mem_iff.1 hy)) hb
theorem Hp.piece (H : Hp w h g gb cap mb N (A ++ b :: C) L m) (hk : b.k = 0) : Calls Tryd.prog 50 #[.pointer (some ⟨h, 0, none⟩), .int .i64 (b.at' + 8 : Nat)] w fun e w' => e = .returned (.int .i64 0) ∧ w = w' := by
  obtain ⟨U, hP, hU⟩ := H.pc
  have hpos := H.inv.tile.pos
  have := H.inv.size
  exact piece_yes H.me hP (hU.mem_iff.2 (mem_used.2 ⟨b, by simp, hk, rfl⟩)) (by omega)
theorem size_no (H : Hp w h g gb cap mb N B L m) {x : Int} (hx : NoPiece B x) (hb : -9223372036854775808 ≤ x ∧ x ≤ 9223372036854775807) : Calls Tryd.prog 20 #[.pointer (some ⟨h, 0, none⟩), .int .i64 x] w fun e w' => e = .returned (.tuple #[.int .i64 0, .int .i64 6]) ∧ w = w' := by
  have HP := Lib.hid (H.noPiece hx hb)
  clear H hx
  go_enter Tryd.func20, Tryd.ntmps20
  go_wp2_with (go_at_call 50; (with_reducible refine HP.out.mono ?_); rintro e w' ⟨rfl, rfl⟩)
  go_ret2
  exact ⟨by simp, rfl⟩
theorem size_yes (H : Hp w h g gb cap mb N (A ++ b :: C) L m) (hk : b.k = 0) : Calls Tryd.prog 20 #[.pointer (some ⟨h, 0, none⟩), .int .i64 (b.at' + 8 : Nat)] w fun e w' => e = .returned (.tuple #[.int .i64 (b.size - 8 : Nat), .int .i64 0]) ∧ Only [g] w w' ∧ Hp w' h g gb cap mb N (A ++ b :: C) L m := by
  have hpos := H.inv.tile.pos
  have hsz := H.inv.size
  have HP := Lib.hid (H.piece hk)
  have hS := size_any' H.me (p := b.at') (z := b.size) (k := 0) (by omega) (by omega) (by omega) (by omega) (by rw [← hk]; exact H.inv.head b (by simp) (by omega))
  have hS : Calls Tryd.prog 51 #[.pointer (some ⟨h, 0, none⟩), .int .i64 (((b.at' + 8 : Nat) : Int) - 8)] w fun e w' => e = .returned (.tuple #[.int .i64 b.size, .bool false]) ∧ Only [g] w w' ∧ Me w' h g gb cap mb N m := by
    rw [show (((b.at' + 8 : Nat) : Int) - 8) = (b.at' : Nat) by omega]; exact hS
  have HS := Lib.hid hS
  have HH := Lib.hid H
  have hb1 : b.at' + 8 < 70000 := by omega
  have hb2 : b.size < 70000 := by omega
  have e1 : ((b.size - 8 : Nat) : Int) = (b.size : Int) - 8 := by omega
  rw [e1]
  clear H hS e1
  generalize b.at' + 8 = x at *
  generalize b.size = z at *
  go_enter Tryd.func20, Tryd.ntmps20
  go_wp2_with (first
    | (go_at_call 50; (with_reducible refine HP.out.mono ?_); rintro e w' ⟨rfl, rfl⟩)
    | (go_at_call 51; (with_reducible refine HS.out.mono ?_); rintro e w1 ⟨rfl, o1, H1⟩))
  go_ret2
  exact ⟨by simp, o1, HH.out.read o1 H1⟩
theorem free_no (H : Hp w h g gb cap mb N B L m) {x : Int} (hx : NoPiece B x) (hb : -9223372036854775808 ≤ x ∧ x ≤ 9223372036854775807) : Calls Tryd.prog 16 #[.pointer (some ⟨h, 0, none⟩), .int .i64 x] w fun e w' => e = .returned (.int .i64 6) ∧ w = w' := by
  have HP := Lib.hid (H.noPiece hx hb)
  clear H hx
  go_enter Tryd.func16, Tryd.ntmps16
  go_wp2_with (go_at_call 50; (with_reducible refine HP.out.mono ?_); rintro e w' ⟨rfl, rfl⟩)
  go_ret
  exact ⟨rfl, rfl⟩
set_option maxHeartbeats 2000000 in
theorem free_yes (H : Hp w h g gb cap mb N (A ++ b :: C) L m) (hk : b.k = 0) : Calls Tryd.prog 16 #[.pointer (some ⟨h, 0, none⟩), .int .i64 (b.at' + 8 : Nat)] w fun e w' => e = .returned (.int .i64 0) ∧ Only [g, gb, mb] w w' ∧ ∃ m',
      Hp w' h g gb cap mb N (freeS A b.at' b.size C L).1 (freeS A b.at' b.size C L).2 m' ∧ ∀ x, Off (A ++ b :: C) x → (x < b.at' ∨ b.at' + b.size ≤ x) → m' x = m x := by
  have hpos := H.inv.tile.pos
  have hsz := H.inv.size
  have HP := Lib.hid (H.piece hk)
  obtain ⟨U, hPc, hU⟩ := H.pc
  have hin : b.at' + 8 ∈ U := hU.mem_iff.2 (mem_used.2 ⟨b, by simp, hk, rfl⟩)
  have hne := H.ne
  have k1 : w.cell? ⟨h, 1, none⟩ = some (.map (some mb)) := by simpa using H.me.hdr.cell 1
  obtain ⟨w1, e1, P1, o1⟩ := hPc.del (ty := 0) hin (by omega)
  have M1 := H.me.only o1 (by simp; omega) (by simp; omega) (by simp; omega)
  have hac : ∀ y ∈ A ++ C, y.k ≠ 2 := fun y hy => H.all y (by rcases List.mem_append.1 hy with q | q <;> simp [q])
  have hS : Hid (Calls Tryd.prog 51 #[.pointer (some ⟨h, 0, none⟩), .int .i64 (((b.at' + 8 : Nat) : Int) - 8)] w1 fun e w' => e = .returned (.tuple #[.int .i64 b.size, .bool false]) ∧ Only [g] w1 w' ∧ Me w' h g gb cap mb N m) := Lib.hid (by
    rw [show (((b.at' + 8 : Nat) : Int) - 8) = (b.at' : Nat) by omega]; exact size_any' M1 (p := b.at') (z := b.size) (k := 0) (by omega) (by omega) (by omega) (by omega) (by rw [← hk]; exact H.inv.head b (by simp) (by omega)))
  have it := take_inv H.inv (by omega)
  have hF : Hid (∀ w2, Me w2 h g gb cap mb N m → Calls Tryd.prog 52 #[.pointer (some ⟨h, 0, none⟩), .int .i64 (((b.at' + 8 : Nat) : Int) - 8), .int .i64 b.size] w2 fun e w' => e = .returned (.tuple #[]) ∧ Only [g, gb] w2 w' ∧ ∃ m', Me w' h g gb cap mb N m' ∧
      St N m (A ++ ⟨b.at', b.size, 2⟩ :: C) b.at' (b.at' + b.size) (freeS A b.at' b.size C L).1 (freeS A b.at' b.size C L).2 m') := Lib.hid fun w2 M2 => by
    rw [show (((b.at' + 8 : Nat) : Int) - 8) = (b.at' : Nat) by omega]
    exact free_any (b := ⟨b.at', b.size, 2⟩) M2 it rfl hac
  have hp2 : (U.erase (b.at' + 8)).Perm (used (freeS A b.at' b.size C L).1) := by
    rw [(freeS_used A b.at' b.size C L).1]
    have e : used (A ++ b :: C) = used A ++ (b.at' + 8) :: used C := by rw [used_app, used_cons, if_pos hk]
    rw [e] at hU
    exact (List.Perm.cons_inv ((List.perm_cons_erase hin).symm.trans (hU.trans List.perm_middle)))
  have hall : ∀ y ∈ (freeS A b.at' b.size C L).1, y.k ≠ 2 := fun y hy => by
    rcases (freeS_used A b.at' b.size C L).2 y hy with q | q
    · exact hac y q
    · omega
  have hfr : ∀ x, Off (A ++ b :: C) x → Off (A ++ ⟨b.at', b.size, 2⟩ :: C) x := fun x hx => hx.sub fun y hy => by
    rcases List.mem_append.1 hy with hy | hy
    · exact ⟨y, by simp [hy], rfl, id⟩
    · rcases List.mem_cons.1 hy with rfl | hy
      · exact ⟨b, by simp, rfl, fun h1 => absurd h1 (by simp)⟩
      · exact ⟨y, by simp [hy], rfl, id⟩
  have hb1 : b.at' + 8 < 70000 := by omega
  have hb2 : b.size < 70000 := by omega
  have HP1 := Lib.hid P1
  have HH := Lib.hid M1
  clear H hPc hU hin hac it M1 P1
  generalize b.at' + 8 = x at *
  go_enter Tryd.func16, Tryd.ntmps16
  go_wp2_with (first
    | (go_at_call 50; (with_reducible refine HP.out.mono ?_); rintro e w' ⟨rfl, rfl⟩)
    | (go_at_call 51; (with_reducible refine hS.out.mono ?_); rintro e w2 ⟨rfl, o2, H2⟩)
    | (go_at_call 52; (with_reducible refine (hF.out _ H2).mono ?_); rintro e w3 ⟨rfl, o3, m3, H3, s3⟩)
    | (rw [e1]; simp only [Result.andThen]))
  go_ret
  refine ⟨rfl, ((o1.mono (by simp)).trans o2 (by simp)).trans o3 (by simp), m3, ⟨H3, s3.inv, hall, _, (HP1.out.only o2 (by simp; omega)).only o3 (by simp; omega), hp2⟩, fun x hx hl => s3.fr x (hfr x hx) hl⟩
end
end Go.Proofs.YthlaoanfoimkfaaDoor
