/- Ready lists: the walk of known. No condition. -/
import Derived.Test.YtlaeiknkabajkaaRd21
namespace Go.Proofs.Ytlaeiknkabajkaa
open Go.RowKit Go.Shelf
set_option linter.unusedVariables false
set_option linter.all false
set_option maxRecDepth 20000

/-- A list in memory whose count of links is bounded. -/
def RS' (W : World) (g : Nat) (q : Nat → List Nat) (B : Int) : Prop := ∃ st, 0 ≤ st ∧ st ≤ B ∧ RL W g q st
theorem RS'.only {w w' : World} {g : Nat} {q : Nat → List Nat} {B : Int} {S : List Nat} (h : RS' w g q B) (o : Only S w w') (hg : g ∉ S) : RS' w' g q B := by
  obtain ⟨st, h1, h2, h3⟩ := h
  exact ⟨st, h1, h2, h3.only o hg⟩
theorem tailB (g : Nat) (q q' : Nat → List Nat) (B B' : Int) (hB : B < 1000000) (hB' : B' = B + 4) (p t c : Int) (hc : putC q p t = c) (hq : putTQ q p t = q') (W : World) (h : RS' W g q B) : Calls Try.prog 18 #[.pointer (some ⟨g, 0, none⟩), .int .i64 p, .int .i64 t] W fun e w' => e = .returned (.int .i64 c) ∧ RS' w' g q' B' ∧ Only [g] W w' := by
  obtain ⟨st, h1, h2, h3⟩ := h
  refine (tail_spec g q st ⟨h1, by omega⟩ p t W h3).mono ?_
  rintro e w' ⟨rfl, ⟨st', a, b, R⟩, o⟩
  exact ⟨by rw [hc], ⟨st', by omega, by omega, hq ▸ R⟩, o⟩
theorem headB (g : Nat) (q q' : Nat → List Nat) (B B' : Int) (hB : B < 1000000) (hB' : B' = B + 4) (p t c : Int) (hc : putC q p t = c) (hq : putHQ q p t = q') (W : World) (h : RS' W g q B) : Calls Try.prog 20 #[.pointer (some ⟨g, 0, none⟩), .int .i64 p, .int .i64 t] W fun e w' => e = .returned (.int .i64 c) ∧ RS' w' g q' B' ∧ Only [g] W w' := by
  obtain ⟨st, h1, h2, h3⟩ := h
  refine (head_spec g q st ⟨h1, by omega⟩ p t W h3).mono ?_
  rintro e w' ⟨rfl, ⟨st', a, b, R⟩, o⟩
  exact ⟨by rw [hc], ⟨st', by omega, by omega, hq ▸ R⟩, o⟩
theorem remB (g : Nat) (q q' : Nat → List Nat) (B B' : Int) (hB : B < 1000000) (hB' : B' = B + 4) (t c : Int) (hc : remC q t = c) (hq : remQ q t = q') (W : World) (h : RS' W g q B) : Calls Try.prog 16 #[.pointer (some ⟨g, 0, none⟩), .int .i64 t] W fun e w' => e = .returned (.int .i64 c) ∧ RS' w' g q' B' ∧ Only [g] W w' := by
  obtain ⟨st, h1, h2, h3⟩ := h
  refine (remove_spec g q st ⟨h1, by omega⟩ t W h3).mono ?_
  rintro e w' ⟨rfl, ⟨st', a, b, R⟩, o⟩
  exact ⟨by rw [hc], ⟨st', by omega, by omega, hq ▸ R⟩, o⟩
theorem firstB (g : Nat) (q : Nat → List Nat) (B B' : Int) (hB : B < 1000000) (hB' : B' = B + 1) (v : Int) (b : Bool) (hv : firstT q = v) (hb : decide (allQ q ≠ []) = b) (W : World) (h : RS' W g q B) : Calls Try.prog 13 #[.pointer (some ⟨g, 0, none⟩)] W fun e w' => e = .returned (.tuple #[.int .i64 v, .bool b]) ∧ RS' w' g q B' ∧ Only [g] W w' := by
  obtain ⟨st, h1, h2, h3⟩ := h
  refine (first_spec g q st ⟨h1, by omega⟩ W h3).mono ?_
  rintro e w' ⟨he, ⟨st', a, b', R⟩, o⟩
  unfold firstE at he
  rw [hv, hb] at he
  exact ⟨he, ⟨st', by omega, by omega, R⟩, o⟩
theorem listB (g : Nat) (q : Nat → List Nat) (B : Int) (p : Int) (l : List Nat) (hl : selQ p (allQ q) = l) (n : Nat) (hn : l.length = n) (W : World) (h : RS' W g q B) : Calls Try.prog 25 #[.pointer (some ⟨g, 0, none⟩), .int .i64 p] W fun e w' => (∃ A c, e = .returned (.slice A n c) ∧ w'.ownsRow W.heap.size 3 1 (.slice A n c) n (NV l)) ∧ RS' w' g q B ∧ Only [] W w' := by
  have h' := h
  obtain ⟨st, h1, h2, h3⟩ := h'
  refine (list_any g p q st (by have := h3.len; omega) W h3).mono ?_
  rintro e w' ⟨⟨A, c, he, ho⟩, o⟩
  rw [hl] at he ho
  subst hn
  exact ⟨⟨A, c, he, ho⟩, h.only o (by simp), o⟩
theorem prioB (g : Nat) (q : Nat → List Nat) (B : Int) (t v : Int) (b : Bool) (hv : (if 0 ≤ t ∧ t < 16 then (prioQ q t.toNat : Int) else 0) = v) (hb : decide (v ≠ 0) = b) (W : World) (h : RS' W g q B) : Calls Try.prog 14 #[.pointer (some ⟨g, 0, none⟩), .int .i64 t] W fun e w' => e = .returned (.tuple #[.int .i64 v, .bool b]) ∧ RS' w' g q B ∧ Only [] W w' := by
  have h' := h
  obtain ⟨st, h1, h2, h3⟩ := h'
  refine (prio_spec g q st t W h3).mono ?_
  rintro e w' ⟨he, hw⟩
  obtain rfl := hw.symm
  unfold prioE at he
  rw [hv, hb] at he
  exact ⟨he, h, Only.refl _ _⟩
theorem RS'.noRow {W : World} {g : Nat} {q : Nat → List Nat} {B : Int} (h : RS' W g q B) : NoRow W [g] := by
  obtain ⟨st, _, _, s, prio, bits, ⟨cs, hb, _⟩, _⟩ := h
  exact NoRow.one hb (by decide)
theorem Nsrc.lit (w : World) (l : List Nat) (cs : Array Value) (h : cs = (NV l).toArray) : Nsrc (w.alloc (.cells cs 3)) (some ⟨w.heap.size, 0, none⟩) l := fun _ => ⟨_, rfl, fun j t hj => by
  rw [(Blk.new w 3 cs).cell j, h, List.getElem?_toArray]
  exact NV_get l j t hj⟩
theorem only_in {w a b : World} {S : List Nat} (h : Only [] w a) (o : Only S a b) (hS : ∀ k ∈ S, w.heap.size ≤ k) : Only [] w b := h.trans o fun k hk => .inr (hS k hk)
def kq0 : Nat → List Nat := fun _ => []
def kq1 : Nat → List Nat := putTQ kq0 0 1
def kq2 : Nat → List Nat := putTQ kq1 32 1
def kq3 : Nat → List Nat := putTQ kq2 5 16
def kq4 : Nat → List Nat := putTQ kq3 5 1
def kq5 : Nat → List Nat := putTQ kq4 7 1
def kq6 : Nat → List Nat := putTQ kq5 5 2
def kq7 : Nat → List Nat := putHQ kq6 5 3
def kq8 : Nat → List Nat := putTQ kq7 9 4
def kq9 : Nat → List Nat := remQ kq8 4
def kq10 : Nat → List Nat := remQ kq9 4
set_option maxHeartbeats 4000000 in
theorem known_any (w : World) : Calls Try.prog 10 #[] w fun e w' => e = .returned (.bool true) ∧ Only [] w w' := by
  have NW := hide (new_any w)
  obtain ⟨g, hg⟩ : ∃ g, w.heap.size = g := ⟨_, rfl⟩
  rw [hg] at NW
  have hgS : ∀ k ∈ [g], w.heap.size ≤ k := fun k hk => by simp at hk; omega
  have HG := hide hg
  clear hg
  unfold ptr at NW
  have T1 := hide (fun W h => tailB g kq0 kq1 0 4 (by decide) (by decide) 0 1 2 (by decide +kernel) rfl W h)
  have T2 := hide (fun W h => tailB g kq1 kq2 4 8 (by decide) (by decide) 32 1 2 (by decide +kernel) rfl W h)
  have T3 := hide (fun W h => tailB g kq2 kq3 8 12 (by decide) (by decide) 5 16 2 (by decide +kernel) rfl W h)
  have T4 := hide (fun W h => tailB g kq3 kq4 12 16 (by decide) (by decide) 5 1 0 (by decide +kernel) rfl W h)
  have T5 := hide (fun W h => tailB g kq4 kq5 16 20 (by decide) (by decide) 7 1 7 (by decide +kernel) rfl W h)
  have T6 := hide (fun W h => tailB g kq5 kq6 20 24 (by decide) (by decide) 5 2 0 (by decide +kernel) rfl W h)
  have T7 := hide (fun W h => headB g kq6 kq7 24 28 (by decide) (by decide) 5 3 0 (by decide +kernel) rfl W h)
  have T8 := hide (fun W h => listB g kq7 28 5 [3, 1, 2] (by decide +kernel) 3 rfl W h)
  have T9 := hide (fun W h => firstB g kq7 28 29 (by decide) (by decide) 3 true (by decide +kernel) (by decide +kernel) W h)
  have T10 := hide (fun W h => tailB g kq7 kq8 29 33 (by decide) (by decide) 9 4 0 (by decide +kernel) rfl W h)
  have T11 := hide (fun W h => firstB g kq8 33 34 (by decide) (by decide) 4 true (by decide +kernel) (by decide +kernel) W h)
  have T12 := hide (fun W h => remB g kq8 kq9 34 38 (by decide) (by decide) 4 0 (by decide +kernel) rfl W h)
  have T13 := hide (fun W h => remB g kq9 kq10 38 42 (by decide) (by decide) 4 6 (by decide +kernel) rfl W h)
  have T14 := hide (fun W h => firstB g kq10 42 43 (by decide) (by decide) 3 true (by decide +kernel) (by decide +kernel) W h)
  have T15 := hide (fun W h => prioB g kq10 43 2 5 true (by decide +kernel) (by decide +kernel) W h)
  go_enter Try.func10, Try.ntmps10
  go_wp2_with (first
    | (go_at_call 6; refine NW.out.mono ?_; rintro e w0 ⟨rfl, r0, o0⟩; have R0 : RS' w0 g kq0 0 := ⟨0, by decide, by decide, r0⟩; clear r0)
    | (go_at_call 18; with_reducible refine (T1.out _ R0).mono ?_; rintro e w1 ⟨rfl, R1, o1⟩)
    | (go_at_call 18; with_reducible refine (T2.out _ R1).mono ?_; rintro e w2 ⟨rfl, R2, o2⟩)
    | (go_at_call 18; with_reducible refine (T3.out _ R2).mono ?_; rintro e w3 ⟨rfl, R3, o3⟩)
    | (go_at_call 18; with_reducible refine (T4.out _ R3).mono ?_; rintro e w4 ⟨rfl, R4, o4⟩)
    | (go_at_call 18; with_reducible refine (T5.out _ R4).mono ?_; rintro e w5 ⟨rfl, R5, o5⟩)
    | (go_at_call 18; with_reducible refine (T6.out _ R5).mono ?_; rintro e w6 ⟨rfl, R6, o6⟩)
    | (go_at_call 20; with_reducible refine (T7.out _ R6).mono ?_; rintro e w7 ⟨rfl, R7, o7⟩)
    | (go_at_call 25; with_reducible refine (T8.out _ R7).mono ?_; rintro e w8 ⟨⟨A0, c0, rfl, hown⟩, R8, o8⟩)
    | (go_at_call 13; with_reducible refine (T9.out _ R8).mono ?_; rintro e w9 ⟨rfl, R9, o9⟩)
    | (go_at_call 18; with_reducible refine (T10.out _ R9).mono ?_; rintro e w10 ⟨rfl, R10, o10⟩)
    | (go_at_call 13; with_reducible refine (T11.out _ R10).mono ?_; rintro e w11 ⟨rfl, R11, o11⟩)
    | (go_at_call 16; with_reducible refine (T12.out _ R11).mono ?_; rintro e w12 ⟨rfl, R12, o12⟩)
    | (go_at_call 16; with_reducible refine (T13.out _ R12).mono ?_; rintro e w13 ⟨rfl, R13, o13⟩)
    | (go_at_call 13; with_reducible refine (T14.out _ R13).mono ?_; rintro e w14 ⟨rfl, R14, o14⟩)
    | (go_at_call 14; with_reducible refine (T15.out _ R14).mono ?_; rintro e w15 ⟨rfl, R15, o15⟩; have HROW15 := hide ((((((((Row.own hown).only o9 R8.noRow).only o10 R9.noRow).only o11 R10.noRow).only o12 R11.noRow).only o13 R12.noRow).only o14 R13.noRow).only o15 (NoRow.nil _)); have HONLY := hide ((only_in (only_in (only_in (only_in (only_in (only_in ((only_in (only_in (only_in (only_in (only_in (only_in (only_in (o0) o1 hgS) o2 hgS) o3 hgS) o4 hgS) o5 hgS) o6 hgS) o7 hgS).trans0 o8) o9 hgS) o10 hgS) o11 hgS) o12 hgS) o13 hgS) o14 hgS).trans0 o15))
    | (go_at_call 15; refine (num_any _ _).mono ?_; rintro e w' ⟨rfl, hw⟩; obtain rfl := hw.symm; clear hw)
    | (go_at_call 27; refine (ints_any A0 _ c0 3 [3, 1, 2] [3, 1, 2] _ (HROW15.out.nsrc.only0 ((Only.refl [] _).alloc _)) (Nsrc.lit w15 [3, 1, 2] _ rfl) (by decide) (by decide)).mono ?_; rintro e w16 ⟨rfl, k16, rfl⟩))
  go_ret
  exact ⟨rfl, ((HONLY.out).alloc _).drewN _⟩
end Go.Proofs.Ytlaeiknkabajkaa
