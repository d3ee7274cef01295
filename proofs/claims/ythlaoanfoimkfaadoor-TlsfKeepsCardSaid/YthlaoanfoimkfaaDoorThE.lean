/- Tlsf: Aligned. No condition but what each theorem says. -/
import Derived.Test.YthlaoanfoimkfaaDoorThD
namespace Go.Proofs.YthlaoanfoimkfaaDoor
open Go.RowKit
set_option linter.unusedVariables false
set_option linter.all false
set_option maxRecDepth 100000
def up (q n : Nat) : Nat := (n + q - 1) / q * q
section
variable {w w' : World} {h g gb cap mb N : Nat} {m : Nat → Nat} {S : List Nat} {B A C : List Bk} {b : Bk} {L : Nat → List Nat} {U : List Nat}
theorem up_any {x k n : Nat} (w : World) (hx : w.cell? ⟨x, 0, none⟩ = some (.int .i64 (2 ^ k : Nat))) (hk : 3 ≤ k ∧ k ≤ 12) (hn : n < 100000) :
    Calls Tryd.prog 65 #[.int .i64 n, .pointer (some ⟨x, 0, none⟩)] w fun e w' => e = .returned (.int .i64 (up (2 ^ k) n)) ∧ w = w' := by
  have hq1 : 2 ^ 3 ≤ 2 ^ k := Nat.pow_le_pow_right (by omega) hk.1
  have hq2 : 2 ^ k ≤ 2 ^ 12 := Nat.pow_le_pow_right (by omega) hk.2
  have ha : bits .andNot .i64 ((n : Int) + ((2 ^ k : Nat) : Int) - 1) (((2 ^ k : Nat) : Int) - 1) = ((up (2 ^ k) n : Nat) : Int) := by
    have := i64_andNot (n + 2 ^ k - 1) (2 ^ k - 1) (by omega) (by omega)
    rw [andNot_pow] at this
    rw [show ((n : Int) + ((2 ^ k : Nat) : Int) - 1) = ((n + 2 ^ k - 1 : Nat) : Int) by omega, show (((2 ^ k : Nat) : Int) - 1) = ((2 ^ k - 1 : Nat) : Int) by omega]
    exact this
  generalize 2 ^ k = q at *
  generalize up q n = r at *
  go_enter Tryd.func65, Tryd.ntmps65
  go_wp2
  go_ret
  exact ⟨rfl, rfl⟩
/-- What Aligned refuses, at its first wrong answer. -/
theorem ask_bad (H : Me w h g gb cap mb N m) (w1 : World) (ho : Only [] w w1) : Calls Tryd.prog 36 #[.pointer (some ⟨h, 0, none⟩), .bool false] w1 fun e w' => e = .returned (.int .i64 2) ∧ w1 = w' := ask_any (H.only0 ho) false
theorem ask_good (H : Me w h g gb cap mb N m) (w1 : World) (ho : Only [] w w1) : Calls Tryd.prog 36 #[.pointer (some ⟨h, 0, none⟩), .bool true] w1 fun e w' => e = .returned (.int .i64 0) ∧ w1 = w' := ask_any (H.only0 ho) true
set_option maxHeartbeats 2000000 in
theorem aligned_bad (H : Hp w h g gb cap mb N B L m) {q n : Int} (hq : -9223372036854775808 ≤ q ∧ q ≤ 9223372036854775807) (hn : ¬ ((1 ≤ n ∧ n ≤ 65536) ∧ 8 ≤ q ∧ q ≤ 4096 ∧ bits .and .i64 q (q - 1) = 0)) :
    Calls Tryd.prog 27 #[.pointer (some ⟨h, 0, none⟩), .int .i64 q, .int .i64 n] w fun e w' => e = .returned (.tuple #[.int .i64 0, .int .i64 2]) ∧ Only [] w w' := by
  have hM : Hid (∀ w, Calls Tryd.prog 46 #[.int .i64 n] w fun e w' => e = .returned (.bool (decide (1 ≤ n ∧ n ≤ 65536))) ∧ w = w') := Lib.hid fun w => may_any n w
  have HA := Lib.hid (ask_bad H.me)
  clear H
  by_cases h1 : 1 ≤ n ∧ n ≤ 65536
  · rw [decide_eq_true h1] at hM
    by_cases h2 : 8 ≤ q
    · by_cases h3 : q ≤ 4096
      · have h4 : (bits .and .i64 q (q - 1) == 0) = false := by
          simp only [beq_eq_false_iff_ne, ne_eq]
          exact fun e => hn ⟨h1, h2, h3, e⟩
        clear hn
        go_enter Tryd.func27, Tryd.ntmps27
        go_wp2_with (first
          | (go_at_call 46; (with_reducible refine (hM.out _).mono ?_); rintro e w' ⟨rfl, rfl⟩)
          | (go_at_call 36; (with_reducible refine (HA.out _ ((Only.refl [] w).alloc _)).mono ?_); rintro e w' ⟨rfl, rfl⟩))
        go_ret2
        exact ⟨by simp, (Only.refl [] w).alloc _⟩
      · clear hn
        go_enter Tryd.func27, Tryd.ntmps27
        go_wp2_with (first
          | (go_at_call 46; (with_reducible refine (hM.out _).mono ?_); rintro e w' ⟨rfl, rfl⟩)
          | (go_at_call 36; (with_reducible refine (HA.out _ ((Only.refl [] w).alloc _)).mono ?_); rintro e w' ⟨rfl, rfl⟩))
        go_ret2
        exact ⟨by simp, (Only.refl [] w).alloc _⟩
    · clear hn
      go_enter Tryd.func27, Tryd.ntmps27
      go_wp2_with (first
        | (go_at_call 46; (with_reducible refine (hM.out _).mono ?_); rintro e w' ⟨rfl, rfl⟩)
        | (go_at_call 36; (with_reducible refine (HA.out _ ((Only.refl [] w).alloc _)).mono ?_); rintro e w' ⟨rfl, rfl⟩))
      go_ret2
      exact ⟨by simp, (Only.refl [] w).alloc _⟩
  · rw [decide_eq_false h1] at hM
    clear hn
    go_enter Tryd.func27, Tryd.ntmps27
    go_wp2_with (first
      | (go_at_call 46; (with_reducible refine (hM.out _).mono ?_); rintro e w' ⟨rfl, rfl⟩)
      | (go_at_call 36; (with_reducible refine (HA.out _ ((Only.refl [] w).alloc _)).mono ?_); rintro e w' ⟨rfl, rfl⟩))
    go_ret2
    exact ⟨by simp, (Only.refl [] w).alloc _⟩
end
end Go.Proofs.YthlaoanfoimkfaaDoor
namespace Go.Proofs.YthlaoanfoimkfaaDoor
open Go.RowKit
set_option linter.unusedVariables false
set_option linter.all false
set_option maxRecDepth 100000
section
variable {w w' : World} {h g gb cap mb N : Nat} {m : Nat → Nat} {S : List Nat} {B A C : List Bk} {b : Bk} {L : Nat → List Nat} {U : List Nat}
theorem pow_and (k : Nat) (hk : k ≤ 12) : bits .and .i64 ((2 ^ k : Nat) : Int) (((2 ^ k : Nat) : Int) - 1) = 0 := by
  have h1 : 0 < 2 ^ k := Nat.pos_of_ne_zero (by simp)
  have h2 : 2 ^ k ≤ 2 ^ 12 := Nat.pow_le_pow_right (by omega) hk
  have := i64_and (2 ^ k) (2 ^ k - 1) (by omega) (by omega)
  rw [Nat.and_two_pow_sub_one_eq_mod, Nat.mod_self] at this
  rw [show (((2 ^ k : Nat) : Int) - 1) = ((2 ^ k - 1 : Nat) : Int) by omega]
  exact this
set_option maxHeartbeats 2000000 in
theorem aligned_no (H : Hp w h g gb cap mb N B L m) {n k : Nat} (h1 : 1 ≤ n) (h2 : n ≤ 65536) (hk : 3 ≤ k ∧ k ≤ 12) (hc : ∀ c, floor (need n + 2 ^ k + 16) ≤ c → L c = []) :
    Calls Tryd.prog 27 #[.pointer (some ⟨h, 0, none⟩), .int .i64 (2 ^ k : Nat), .int .i64 n] w fun e w' => e = .returned (.tuple #[.int .i64 0, .int .i64 5]) ∧ Only [g] w w' ∧ Hp w' h g gb cap mb N B L m := by
  have hq1 : 2 ^ 3 ≤ 2 ^ k := Nat.pow_le_pow_right (by omega) hk.1
  have hq2 : 2 ^ k ≤ 2 ^ 12 := Nat.pow_le_pow_right (by omega) hk.2
  have hand := pow_and k hk.2
  have hM : Hid (∀ w, Calls Tryd.prog 46 #[.int .i64 n] w fun e w' => e = .returned (.bool true) ∧ w = w') := Lib.hid fun w => by
    have := may_any n w
    rw [decide_eq_true (by omega)] at this; exact this
  have HA := Lib.hid (ask_good H.me)
  have hn := need_is n
  have HN : Hid (∀ w, Calls Tryd.prog 48 #[.int .i64 n] w fun e w' => e = .returned (.int .i64 (need n)) ∧ w = w') := Lib.hid fun w => need_any w h2
  have HF : Hid (∀ w1, Only [] w w1 → Calls Tryd.prog 47 #[.pointer (some ⟨h, 0, none⟩), .int .i64 (IntKind.i64.wrap (IntKind.i64.wrap ((need n : Int) + ((2 ^ k : Nat) : Int)) + 16))] w1 fun e w' => e = .returned (.tuple #[.int .i64 0, .int .i64 0, .bool false]) ∧ Only [g] w1 w' ∧ Me w' h g gb cap mb N m) := Lib.hid fun w1 o1 => by
    have := hn.2.2.2 h2
    rw [show (IntKind.i64.wrap (IntKind.i64.wrap ((need n : Int) + ((2 ^ k : Nat) : Int)) + 16)) = ((need n + 2 ^ k + 16 : Nat) : Int) by rw [wraps_i64 ((need n : Int) + ((2 ^ k : Nat) : Int)) (by omega) (by omega), wraps_i64 _ (by omega) (by omega)]; omega]
    exact find_no (H.me.only0 o1) H.inv (by omega) (by omega) hc
  have HH := Lib.hid H
  have hnb := hn.2.2.2 h2
  have hlt := H.lt.2.1
  clear hn hc H
  generalize 2 ^ k = q at *
  generalize need n = z at *
  go_enter Tryd.func27, Tryd.ntmps27
  go_wp2_with (first
    | (go_at_call 46; (with_reducible refine (hM.out _).mono ?_); rintro e w' ⟨rfl, rfl⟩)
    | (go_at_call 36; (with_reducible refine (HA.out _ ((Only.refl [] w).alloc _)).mono ?_); rintro e w' ⟨rfl, rfl⟩))
  go_region_held3 (fun W => W.cell? ⟨w.heap.size, 0, none⟩ = some (.int .i64 q)) (first | go_keep | exact kx)
    (first
    | (go_at_call 48; (with_reducible refine (HN.out _).mono ?_); rintro e w' ⟨rfl, rfl⟩)
    | (go_at_call 47; (with_reducible refine (HF.out _ (((Only.refl [] w).alloc _).drew)).mono ?_); rintro e w1 ⟨rfl, o1, H1⟩; have kx : w1.cell? ⟨w.heap.size, 0, none⟩ = some (.int .i64 q) := (o1.keep (by simp) (by simp; omega))))
  go_wp2
  go_ret2
  exact ⟨by simp, (((((Only.refl [] w).alloc _).drew).mono (by simp) : Only [g] _ _).trans o1 (by simp)), HH.out.read ((((((Only.refl [] w).alloc _).drew).mono (by simp) : Only [g] _ _).trans o1 (by simp))) H1⟩
end
end Go.Proofs.YthlaoanfoimkfaaDoor
namespace Go.Proofs.YthlaoanfoimkfaaDoor
open Go.RowKit
set_option linter.unusedVariables false
set_option linter.all false
set_option maxRecDepth 100000
section
variable {w w' : World} {h g gb cap mb N : Nat} {m : Nat → Nat} {S : List Nat} {B A C : List Bk} {b : Bk} {L : Nat → List Nat} {U : List Nat}
theorem swap_off {x k : Nat} (hx : Off (A ++ b :: C) x) (hk : k ≠ 1) : Off (A ++ ⟨b.at', b.size, k⟩ :: C) x := hx.sub fun y hy => by
  rcases List.mem_append.1 hy with hy | hy
  · exact ⟨y, by simp [hy], rfl, id⟩
  · rcases List.mem_cons.1 hy with rfl | hy
    · exact ⟨b, by simp, rfl, fun h1 => absurd h1 hk⟩
    · exact ⟨y, by simp [hy], rfl, id⟩
set_option maxHeartbeats 4000000 in
theorem aligned_zero (hEnv : Env w) (hg0 : g ≠ 0) (H : Hp w h g gb cap mb N (A ++ b :: C) L m) (hbk : b.k = 1) {n k c : Nat} (h1 : 1 ≤ n) (h2 : n ≤ 65536) (hk : 3 ≤ k ∧ k ≤ 12) (hc : FirstC L (floor (need n + 2 ^ k + 16)) c) (hd : (L c).headD 0 = b.at') (hup : up (2 ^ k) (b.at' + 8) = b.at' + 8) :
    Calls Tryd.prog 27 #[.pointer (some ⟨h, 0, none⟩), .int .i64 (2 ^ k : Nat), .int .i64 n] w fun e w' => e = .returned (.tuple #[.int .i64 (b.at' + 8 : Nat), .int .i64 0]) ∧ Only [g, gb, mb] w w' ∧ ∃ m',
      Hp w' h g gb cap mb N (cutS false A b.at' b.size (need n) C (rmL L (cls b.size) b.at')).1 (cutS false A b.at' b.size (need n) C (rmL L (cls b.size) b.at')).2 m' ∧
      ∀ x, Off (A ++ b :: C) x → (x < b.at' ∨ b.at' + b.size ≤ x) → m' x = m x := by
  have hq1 : 2 ^ 3 ≤ 2 ^ k := Nat.pow_le_pow_right (by omega) hk.1
  have hq2 : 2 ^ k ≤ 2 ^ 12 := Nat.pow_le_pow_right (by omega) hk.2
  have hand := pow_and k hk.2
  have hM : Hid (∀ w, Calls Tryd.prog 46 #[.int .i64 n] w fun e w' => e = .returned (.bool true) ∧ w = w') := Lib.hid fun w => by
    have := may_any n w
    rw [decide_eq_true (by omega)] at this; exact this
  have HA := Lib.hid (ask_good H.me)
  have hn := need_is n
  have hz2 := hn.2.2.2 h2
  have hpos := H.inv.tile.pos
  have hsz := H.inv.size
  have HN : Hid (∀ w, Calls Tryd.prog 48 #[.int .i64 n] w fun e w' => e = .returned (.int .i64 (need n)) ∧ w = w') := Lib.hid fun w => need_any w h2
  have HF : Hid (∀ w1, Only [] w w1 → Calls Tryd.prog 47 #[.pointer (some ⟨h, 0, none⟩), .int .i64 (IntKind.i64.wrap (IntKind.i64.wrap ((need n : Int) + ((2 ^ k : Nat) : Int)) + 16))] w1 fun e w' => e = .returned (.tuple #[.int .i64 b.at', .int .i64 b.size, .bool true]) ∧ Only [g, gb] w1 w' ∧ ∃ m', Me w' h g gb cap mb N m' ∧
      Inv N m' (A ++ ⟨b.at', b.size, 2⟩ :: C) (rmL L (cls b.size) b.at') ∧ (∀ x, Off (A ++ b :: C) x → m' x = m x)) := Lib.hid fun w1 o1 => by
    rw [show (IntKind.i64.wrap (IntKind.i64.wrap ((need n : Int) + ((2 ^ k : Nat) : Int)) + 16)) = ((need n + 2 ^ k + 16 : Nat) : Int) by rw [wraps_i64 ((need n : Int) + ((2 ^ k : Nat) : Int)) (by omega) (by omega), wraps_i64 _ (by omega) (by omega)]; omega]
    exact find_yes (hEnv.only o1 (by simp)) hg0 (H.me.only0 o1) H.inv hbk (by omega) (by omega) hc hd
  have HU : Hid (∀ w1, w1.cell? ⟨w.heap.size, 0, none⟩ = some (.int .i64 (2 ^ k : Nat)) → Calls Tryd.prog 65 #[.int .i64 ((b.at' : Int) + 8), .pointer (some ⟨w.heap.size, 0, none⟩)] w1 fun e w' => e = .returned (.int .i64 ((b.at' : Int) + 8)) ∧ w1 = w') := Lib.hid fun w1 hx => by
    have := up_any w1 hx hk (n := b.at' + 8) (by omega)
    rw [hup] at this
    exact this
  have hac : ∀ y ∈ A ++ C, y.k ≠ 2 := fun y hy => H.all y (by rcases List.mem_append.1 hy with q | q <;> simp [q])
  obtain ⟨U, hP, hU⟩ := H.pc
  have hne := H.ne
  have hlt := H.lt
  have hnot : b.at' + 8 ∉ U := fun hx => by
    have := hU.mem_iff.1 hx
    obtain ⟨y, hy, e1, e2⟩ := mem_used.1 this
    have := H.inv.tile.inj hy (show b ∈ A ++ b :: C by simp) (by omega)
    subst this
    omega
  have hadd : addU U (b.at' + 8) = (b.at' + 8) :: U := by unfold addU; rw [if_neg hnot]
  have hperm : (addU U (b.at' + 8)).Perm (used A ++ (b.at' + 8) :: used C) := by
    rw [hadd]
    have e : used (A ++ b :: C) = used A ++ used C := by rw [used_app, used_cons, if_neg (by omega)]
    rw [e] at hU
    exact (hU.cons _).trans List.perm_middle.symm
  have HC : Hid (∀ w1 m1, Pc w1 mb U → Me w1 h g gb cap mb N m1 → Inv N m1 (A ++ ⟨b.at', b.size, 2⟩ :: C) (rmL L (cls b.size) b.at') → Calls Tryd.prog 49 #[.pointer (some ⟨h, 0, none⟩), .int .i64 b.at', .int .i64 b.size, .int .i64 (need n), .func (.func 45) #[.pointer (some ⟨h, 0, none⟩)] #[]] w1 fun e w' => e = .returned (.int .i64 (b.at' + 8 : Nat)) ∧ Only [g, gb, mb] w1 w' ∧
      (∃ m', Me w' h g gb cap mb N m' ∧ St N m1 (A ++ ⟨b.at', b.size, 2⟩ :: C) (b.at' + need n) (b.at' + b.size) (cutS false A b.at' b.size (need n) C (rmL L (cls b.size) b.at')).1 (cutS false A b.at' b.size (need n) C (rmL L (cls b.size) b.at')).2 m') ∧ Pc w' mb (addU U (b.at' + 8))) := Lib.hid fun w1 m1 P1 M1 I1 =>
    cut_any (b := ⟨b.at', b.size, 2⟩) M1 P1 I1 rfl hac false hn.1 hn.2.1 (by omega)
  have HH := Lib.hid H
  have HP := Lib.hid hP
  have hb1 : b.at' < 70000 := by omega
  have hb2 : b.size < 70000 := by omega
  clear H hn hc hd hpos hac hP hU hnot hadd hEnv hup
  generalize hqq : 2 ^ k = q at *
  clear hqq
  generalize need n = z at *
  go_enter Tryd.func27, Tryd.ntmps27
  go_wp2_with (first
    | (go_at_call 46; (with_reducible refine (hM.out _).mono ?_); rintro e w' ⟨rfl, rfl⟩)
    | (go_at_call 36; (with_reducible refine (HA.out _ ((Only.refl [] w).alloc _)).mono ?_); rintro e w' ⟨rfl, rfl⟩))
  go_region_held3 (fun W => W.cell? ⟨w.heap.size, 0, none⟩ = some (.int .i64 q)) (first | go_keep | exact kx)
    (first
    | (go_at_call 48; (with_reducible refine (HN.out _).mono ?_); rintro e w' ⟨rfl, rfl⟩)
    | (go_at_call 47; (with_reducible refine (HF.out _ (((Only.refl [] w).alloc _).drew)).mono ?_); rintro e w1 ⟨rfl, o1, m1, H1, I1, f1⟩; have kx : w1.cell? ⟨w.heap.size, 0, none⟩ = some (.int .i64 q) := (o1.keep (by simp) (by simp; omega))))
  have O1 := Lib.hid (((((Only.refl [] w).alloc _).drew).mono (by simp) : Only [g, gb] _ _).trans o1 (by simp))
  go_wp2_with (first
    | (go_at_call 65; (with_reducible refine (HU.out _ kx).mono ?_); rintro e w' ⟨rfl, rfl⟩)
    | (go_at_call 48; (with_reducible refine (HN.out _).mono ?_); rintro e w' ⟨rfl, rfl⟩)
    | (go_at_call 49; (with_reducible refine (HC.out _ _ (HP.out.only O1.out (by simp; omega)) H1 I1).mono ?_); rintro e w2 ⟨rfl, o2, ⟨m2, H2, s2⟩, P2⟩))
  go_ret2
  refine ⟨by simp, (O1.out.mono (by simp)).trans o2 (by simp), m2, HH.out.cut s2.inv (fun y hy => HH.out.all y (by rcases List.mem_append.1 hy with q | q <;> simp [q])) H2 P2 hperm, fun x hx hl => ?_⟩
  exact (s2.fr x (swap_off hx (by omega)) (by omega)).trans (f1 x hx)
end
end Go.Proofs.YthlaoanfoimkfaaDoor
namespace Go.Proofs.YthlaoanfoimkfaaDoor
open Go.RowKit
set_option linter.unusedVariables false
set_option linter.all false
set_option maxRecDepth 100000
section
variable {w w' : World} {h g gb cap mb N : Nat} {m : Nat → Nat} {S : List Nat} {B A C : List Bk} {b : Bk} {L : Nat → List Nat} {U : List Nat}
set_option maxHeartbeats 4000000 in
theorem aligned_more (hEnv : Env w) (hg0 : g ≠ 0) (H : Hp w h g gb cap mb N (A ++ b :: C) L m) (hbk : b.k = 1) {n k c : Nat} (h1 : 1 ≤ n) (h2 : n ≤ 65536) (hk : 3 ≤ k ∧ k ≤ 12) (hc : FirstC L (floor (need n + 2 ^ k + 16)) c) (hd : (L c).headD 0 = b.at') (hup : up (2 ^ k) (b.at' + 8) ≠ b.at' + 8) {a : Nat} (ha : up (2 ^ k) (b.at' + 24) = b.at' + 8 + a) :
    Calls Tryd.prog 27 #[.pointer (some ⟨h, 0, none⟩), .int .i64 (2 ^ k : Nat), .int .i64 n] w fun e w' => e = .returned (.tuple #[.int .i64 (b.at' + a + 8 : Nat), .int .i64 0]) ∧ Only [g, gb, mb] w w' ∧ ∃ m',
      Hp w' h g gb cap mb N (cutS false (A ++ [⟨b.at', a, 1⟩]) (b.at' + a) (b.size - a) (need n) C (insL (rmL L (cls b.size) b.at') (cls a) b.at')).1 (cutS false (A ++ [⟨b.at', a, 1⟩]) (b.at' + a) (b.size - a) (need n) C (insL (rmL L (cls b.size) b.at') (cls a) b.at')).2 m' ∧
      ∀ x, Off (A ++ b :: C) x → (x < b.at' ∨ b.at' + b.size ≤ x) → m' x = m x := by
  have hq1 : 2 ^ 3 ≤ 2 ^ k := Nat.pow_le_pow_right (by omega) hk.1
  have hq2 : 2 ^ k ≤ 2 ^ 12 := Nat.pow_le_pow_right (by omega) hk.2
  have hand := pow_and k hk.2
  have hM : Hid (∀ w, Calls Tryd.prog 46 #[.int .i64 n] w fun e w' => e = .returned (.bool true) ∧ w = w') := Lib.hid fun w => by
    have := may_any n w
    rw [decide_eq_true (by omega)] at this; exact this
  have HA := Lib.hid (ask_good H.me)
  have hn := need_is n
  have hz2 := hn.2.2.2 h2
  have hpos := H.inv.tile.pos
  have hsz := H.inv.size
  have hfl := floor_le (z := need n + 2 ^ k + 16) (s := b.size) (by omega) (by omega) (by
    have hcl : cls b.size = c := by
      have hin : b.at' ∈ L c := by
        cases hl : L c with
        | nil => exact absurd hl hc.2.1
        | cons x r => rw [hl] at hd; rw [← show x = b.at' from hd]; simp
      obtain ⟨y, hy, e1, e2, e3⟩ := (H.inv.mem c b.at').1 hin
      rw [H.inv.tile.inj hy (show b ∈ A ++ b :: C by simp) e1] at e3
      exact e3
    rw [hcl]; exact hc.1)
  have hdv : up (2 ^ k) (b.at' + 24) % 2 ^ k = 0 ∧ b.at' + 24 ≤ up (2 ^ k) (b.at' + 24) ∧ up (2 ^ k) (b.at' + 24) < b.at' + 24 + 2 ^ k := by
    unfold up
    have hqp : 0 < 2 ^ k := Nat.pos_of_ne_zero (by simp)
    have h0 := Nat.div_add_mod (b.at' + 24 + 2 ^ k - 1) (2 ^ k)
    have h0' := Nat.mod_lt (b.at' + 24 + 2 ^ k - 1) hqp
    rw [Nat.mul_comm] at h0
    exact ⟨Nat.mul_mod_left _ _, by omega, by omega⟩
  have h8 : (8 : Nat) ∣ 2 ^ k := by
    have := Nat.pow_dvd_pow 2 hk.1
    exact this
  have ha8 : a % 8 = 0 := by
    have h1 : (8 : Nat) ∣ up (2 ^ k) (b.at' + 24) := Nat.dvd_trans h8 (Nat.dvd_of_mod_eq_zero hdv.1)
    rw [ha] at h1
    have := hpos.2.1
    omega
  have ha16 : 16 ≤ a ∧ a < 16 + 2 ^ k := by
    have := hdv.2
    rw [ha] at this
    omega
  have hap : b.at' + a ≠ b.at' := by omega
  have HN : Hid (∀ w, Calls Tryd.prog 48 #[.int .i64 n] w fun e w' => e = .returned (.int .i64 (need n)) ∧ w = w') := Lib.hid fun w => need_any w h2
  have HF : Hid (∀ w1, Only [] w w1 → Calls Tryd.prog 47 #[.pointer (some ⟨h, 0, none⟩), .int .i64 (IntKind.i64.wrap (IntKind.i64.wrap ((need n : Int) + ((2 ^ k : Nat) : Int)) + 16))] w1 fun e w' => e = .returned (.tuple #[.int .i64 b.at', .int .i64 b.size, .bool true]) ∧ Only [g, gb] w1 w' ∧ ∃ m', Me w' h g gb cap mb N m' ∧
      Inv N m' (A ++ ⟨b.at', b.size, 2⟩ :: C) (rmL L (cls b.size) b.at') ∧ (∀ x, Off (A ++ b :: C) x → m' x = m x)) := Lib.hid fun w1 o1 => by
    rw [show (IntKind.i64.wrap (IntKind.i64.wrap ((need n : Int) + ((2 ^ k : Nat) : Int)) + 16)) = ((need n + 2 ^ k + 16 : Nat) : Int) by rw [wraps_i64 ((need n : Int) + ((2 ^ k : Nat) : Int)) (by omega) (by omega), wraps_i64 _ (by omega) (by omega)]; omega]
    exact find_yes (hEnv.only o1 (by simp)) hg0 (H.me.only0 o1) H.inv hbk (by omega) (by omega) hc hd
  have HU : Hid (∀ w1, w1.cell? ⟨w.heap.size, 0, none⟩ = some (.int .i64 (2 ^ k : Nat)) → Calls Tryd.prog 65 #[.int .i64 ((b.at' : Int) + 8), .pointer (some ⟨w.heap.size, 0, none⟩)] w1 fun e w' => e = .returned (.int .i64 (up (2 ^ k) (b.at' + 8))) ∧ w1 = w') := Lib.hid fun w1 hx => up_any w1 hx hk (n := b.at' + 8) (by omega)
  have HV : Hid (∀ w1, w1.cell? ⟨w.heap.size, 0, none⟩ = some (.int .i64 (2 ^ k : Nat)) → Calls Tryd.prog 65 #[.int .i64 ((b.at' : Int) + 24), .pointer (some ⟨w.heap.size, 0, none⟩)] w1 fun e w' => e = .returned (.int .i64 (up (2 ^ k) (b.at' + 24))) ∧ w1 = w') := Lib.hid fun w1 hx => up_any w1 hx hk (n := b.at' + 24) (by omega)
  have hac : ∀ y ∈ A ++ C, y.k ≠ 2 := fun y hy => H.all y (by rcases List.mem_append.1 hy with q | q <;> simp [q])
  obtain ⟨U, hP, hU⟩ := H.pc
  have hne := H.ne
  have hlt := H.lt
  have hnot : b.at' + a + 8 ∉ U := fun hx => by
    have := hU.mem_iff.1 hx
    obtain ⟨y, hy, e1, e2⟩ := mem_used.1 this
    rcases List.mem_append.1 hy with hy | hy
    · have := hpos.2.2.2.2.2.2.2.1 y hy
      omega
    · rcases List.mem_cons.1 hy with rfl | hy
      · omega
      · have := hpos.2.2.2.2.2.2.2.2 y hy
        omega
  have hadd : addU U (b.at' + a + 8) = (b.at' + a + 8) :: U := by unfold addU; rw [if_neg hnot]
  have hperm : (addU U (b.at' + a + 8)).Perm (used (A ++ [⟨b.at', a, 1⟩]) ++ (b.at' + a + 8) :: used C) := by
    rw [hadd]
    have e : used (A ++ b :: C) = used A ++ used C := by rw [used_app, used_cons, if_neg (by omega)]
    rw [e] at hU
    rw [show used (A ++ [⟨b.at', a, 1⟩]) = used A by rw [used_app, used_cons, if_neg (by simp)]; simp [used_nil]]
    exact (hU.cons _).trans List.perm_middle.symm
  have hac2 : ∀ y ∈ (A ++ [⟨b.at', a, 1⟩]) ++ C, y.k ≠ 2 := fun y hy => by
    rcases List.mem_append.1 hy with hy | hy
    · rcases List.mem_append.1 hy with hy | hy
      · exact hac y (List.mem_append_left _ hy)
      · rw [List.mem_singleton.1 hy]; simp
    · exact hac y (List.mem_append_right _ hy)
  have eA : ((up (2 ^ k) (b.at' + 24) : Nat) : Int) - 8 - (b.at' : Int) = (a : Nat) := by rw [ha]; omega
  have HPt : Hid (∀ w1 m1, Me w1 h g gb cap mb N m1 → Inv N m1 (A ++ ⟨b.at', b.size, 2⟩ :: C) (rmL L (cls b.size) b.at') → Calls Tryd.prog 45 #[.pointer (some ⟨h, 0, none⟩), .int .i64 b.at', .int .i64 (((up (2 ^ k) (b.at' + 24) : Nat) : Int) - 8 - (b.at' : Int))] w1 fun e w' => e = .returned (.tuple #[]) ∧ Only [g, gb] w1 w' ∧ ∃ m', Me w' h g gb cap mb N m' ∧
      Inv N m' ((A ++ [⟨b.at', a, 1⟩]) ++ ⟨b.at' + a, b.size - a, 2⟩ :: C) (insL (rmL L (cls b.size) b.at') (cls a) b.at') ∧ (∀ x, Off (A ++ b :: C) x → (x < b.at' ∨ b.at' + b.size ≤ x) → m' x = m1 x)) := Lib.hid fun w1 m1 M1 I1 => by
    rw [eA]
    have I2 := split_inv (z := a) I1 rfl ha16.1 ha8 (show 16 ≤ b.size - a by omega)
    refine (put_any (b := ⟨b.at', a, 2⟩) M1 I2 rfl).mono ?_
    rintro e w2 ⟨rfl, o2, m2, H2, i2, f2⟩
    refine ⟨rfl, o2, m2, H2, by simpa using i2, fun x hx hl => f2 x ?_ ?_ ?_⟩
    · refine ⟨hx.1, fun y hy => ?_⟩
      rcases List.mem_append.1 hy with hy | hy
      · exact hx.2 y (List.mem_append_left _ hy)
      · rcases List.mem_cons.1 hy with rfl | hy
        · have := hx.2 b (by simp)
          exact ⟨this.1, this.2.1, fun h1 => absurd h1 (by simp)⟩
        · rcases List.mem_cons.1 hy with rfl | hy
          · refine ⟨?_, ?_, fun h1 => absurd h1 (by simp)⟩
            · show x ≠ b.at' + a
              omega
            · show x ≠ b.at' + a + 4
              omega
          · exact hx.2 y (by simp [hy])
    · show x ≠ b.at' + 8
      omega
    · show x ≠ b.at' + 12
      omega
  have HSt : Hid (∀ w1 m1, Me w1 h g gb cap mb N m1 → Inv N m1 ((A ++ [⟨b.at', a, 1⟩]) ++ ⟨b.at' + a, b.size - a, 2⟩ :: C) (insL (rmL L (cls b.size) b.at') (cls a) b.at') → Calls Tryd.prog 44 #[.pointer (some ⟨h, 0, none⟩), .int .i64 ((b.at' : Int) + (((up (2 ^ k) (b.at' + 24) : Nat) : Int) - 8 - (b.at' : Int)) + 4), .int .i64 (((up (2 ^ k) (b.at' + 24) : Nat) : Int) - 8 - (b.at' : Int))] w1 fun e w' => e = .returned (.tuple #[]) ∧ Only [g, gb] w1 w' ∧ Me w' h g gb cap mb N m1) := Lib.hid fun w1 m1 M1 I1 => by
    rw [eA]
    have e := ahead_is (b := ⟨b.at', a, 1⟩) I1 (by simp) (by simp)
    have hb := set_any M1 (p := b.at' + a + 4) (v := a) (by omega) (by omega) (by omega)
    have e2 : upd m1 (b.at' + a + 4) a = m1 := by
      funext x
      by_cases hx : x = b.at' + a + 4
      · rw [hx, upd_at]; exact e.symm
      · exact upd_ne hx
    rw [e2] at hb
    rw [show ((b.at' : Int) + ((a : Nat) : Int) + 4) = ((b.at' + a + 4 : Nat) : Int) by omega]
    exact hb
  have HC : Hid (∀ w1 m1, Pc w1 mb U → Me w1 h g gb cap mb N m1 → Inv N m1 ((A ++ [⟨b.at', a, 1⟩]) ++ ⟨b.at' + a, b.size - a, 2⟩ :: C) (insL (rmL L (cls b.size) b.at') (cls a) b.at') → Calls Tryd.prog 49 #[.pointer (some ⟨h, 0, none⟩), .int .i64 ((b.at' : Int) + (((up (2 ^ k) (b.at' + 24) : Nat) : Int) - 8 - (b.at' : Int))), .int .i64 ((b.size : Int) - (((up (2 ^ k) (b.at' + 24) : Nat) : Int) - 8 - (b.at' : Int))), .int .i64 (need n), .func (.func 45) #[.pointer (some ⟨h, 0, none⟩)] #[]] w1 fun e w' => e = .returned (.int .i64 (b.at' + a + 8 : Nat)) ∧ Only [g, gb, mb] w1 w' ∧
      (∃ m', Me w' h g gb cap mb N m' ∧ St N m1 ((A ++ [⟨b.at', a, 1⟩]) ++ ⟨b.at' + a, b.size - a, 2⟩ :: C) (b.at' + a + need n) (b.at' + a + (b.size - a)) (cutS false (A ++ [⟨b.at', a, 1⟩]) (b.at' + a) (b.size - a) (need n) C (insL (rmL L (cls b.size) b.at') (cls a) b.at')).1 (cutS false (A ++ [⟨b.at', a, 1⟩]) (b.at' + a) (b.size - a) (need n) C (insL (rmL L (cls b.size) b.at') (cls a) b.at')).2 m') ∧ Pc w' mb (addU U (b.at' + a + 8))) := Lib.hid fun w1 m1 P1 M1 I1 => by
    rw [eA, show ((b.at' : Int) + ((a : Nat) : Int)) = ((b.at' + a : Nat) : Int) by omega, show ((b.size : Int) - ((a : Nat) : Int)) = ((b.size - a : Nat) : Int) by omega]
    exact cut_any (b := ⟨b.at' + a, b.size - a, 2⟩) M1 P1 I1 rfl hac2 false hn.1 hn.2.1 (by omega)
  have hr1 : ((up (2 ^ k) (b.at' + 8) : Nat) : Int) ≠ (b.at' : Int) + 8 := by omega
  have hr1' : (((up (2 ^ k) (b.at' + 8) : Nat) : Int) == (b.at' : Int) + 8) = false := by simp only [beq_eq_false_iff_ne, ne_eq]; exact hr1
  have hrb : up (2 ^ k) (b.at' + 8) < 200000 := by
    unfold up
    have := Nat.div_mul_le_self (b.at' + 8 + 2 ^ k - 1) (2 ^ k)
    omega
  have hr2 : 0 < ((up (2 ^ k) (b.at' + 24) : Nat) : Int) - 8 - (b.at' : Int) := by rw [eA]; omega
  have hr3 : ((up (2 ^ k) (b.at' + 24) : Nat) : Int) - 8 - (b.at' : Int) ≤ b.size := by rw [eA]; omega
  have hr4 : up (2 ^ k) (b.at' + 24) < 200000 := by rw [ha]; omega
  have hfr : ∀ x, Off (A ++ b :: C) x → (x < b.at' ∨ b.at' + b.size ≤ x) → Off ((A ++ [⟨b.at', a, 1⟩]) ++ ⟨b.at' + a, b.size - a, 2⟩ :: C) x ∧ (x < b.at' + a + need n ∨ b.at' + a + (b.size - a) ≤ x) := fun x hx hl => by
    refine ⟨⟨hx.1, fun y hy => ?_⟩, by omega⟩
    rcases List.mem_append.1 hy with hy | hy
    · rcases List.mem_append.1 hy with hy | hy
      · exact hx.2 y (List.mem_append_left _ hy)
      · rw [List.mem_singleton.1 hy]
        have := hx.2 b (by simp)
        exact ⟨this.1, this.2.1, fun _ => this.2.2 hbk⟩
    · rcases List.mem_cons.1 hy with rfl | hy
      · refine ⟨?_, ?_, fun h1 => absurd h1 (by simp)⟩
        · show x ≠ b.at' + a
          omega
        · show x ≠ b.at' + a + 4
          omega
      · exact hx.2 y (by simp [hy])
  have HH := Lib.hid H
  have HP := Lib.hid hP
  have hb1 : b.at' < 70000 := by omega
  have hb2 : b.size < 70000 := by omega
  clear H hn hc hd hpos hac hP hU hnot hadd hEnv hup eA hr1 hfl hdv h8 ha8 ha16 hap ha
  generalize up (2 ^ k) (b.at' + 8) = r1 at *
  generalize up (2 ^ k) (b.at' + 24) = r2 at *
  generalize hqq : 2 ^ k = q at *
  clear hqq
  generalize need n = z at *
  go_enter Tryd.func27, Tryd.ntmps27
  go_wp2_with (first
    | (go_at_call 46; (with_reducible refine (hM.out _).mono ?_); rintro e w' ⟨rfl, rfl⟩)
    | (go_at_call 36; (with_reducible refine (HA.out _ ((Only.refl [] w).alloc _)).mono ?_); rintro e w' ⟨rfl, rfl⟩))
  go_region_held3 (fun W => W.cell? ⟨w.heap.size, 0, none⟩ = some (.int .i64 q)) (first | go_keep | exact kx)
    (first
    | (go_at_call 48; (with_reducible refine (HN.out _).mono ?_); rintro e w' ⟨rfl, rfl⟩)
    | (go_at_call 47; (with_reducible refine (HF.out _ (((Only.refl [] w).alloc _).drew)).mono ?_); rintro e w1 ⟨rfl, o1, m1, H1, I1, f1⟩; have kx : w1.cell? ⟨w.heap.size, 0, none⟩ = some (.int .i64 q) := (o1.keep (by simp) (by simp; omega))))
  have O1 := Lib.hid (((((Only.refl [] w).alloc _).drew).mono (by simp) : Only [g, gb] _ _).trans o1 (by simp))
  go_wp2_with (first
    | (go_at_call 65; (with_reducible refine (HU.out _ kx).mono ?_); rintro e w' ⟨rfl, rfl⟩)
    | (go_at_call 65; (with_reducible refine (HV.out _ kx).mono ?_); rintro e w' ⟨rfl, rfl⟩)
    | (go_at_call 45; (with_reducible refine (HPt.out _ _ H1 I1).mono ?_); rintro e w3 ⟨rfl, o3, m3, H3, I3, f3⟩)
    | (go_at_call 44; (with_reducible refine (HSt.out _ _ H3 I3).mono ?_); rintro e w4 ⟨rfl, o4, H4⟩)
    | (go_at_call 48; (with_reducible refine (HN.out _).mono ?_); rintro e w' ⟨rfl, rfl⟩)
    | (go_at_call 49; (with_reducible refine (HC.out _ _ (HP.out.only ((O1.out.trans o3 (by simp)).trans o4 (by simp)) (by simp; omega)) H4 I3).mono ?_); rintro e w2 ⟨rfl, o2, ⟨m2, H2, s2⟩, P2⟩))
  go_ret2
  refine ⟨by simp, (((O1.out.trans o3 (by simp)).trans o4 (by simp)).mono (by simp)).trans o2 (by simp), m2, HH.out.cut s2.inv hac2 H2 P2 hperm, fun x hx hl => ?_⟩
  exact ((s2.fr x (hfr x hx hl).1 (hfr x hx hl).2).trans (f3 x hx hl)).trans (f1 x hx)
end
end Go.Proofs.YthlaoanfoimkfaaDoor
