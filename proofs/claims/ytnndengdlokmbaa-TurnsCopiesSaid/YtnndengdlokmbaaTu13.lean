/- Turns: the walk of known. No condition. -/
import Derived.Test.YtnndengdlokmbaaTu12
namespace Go.Proofs.Ytnndengdlokmbaa
open Go.RowKit Go.Shelf
set_option linter.unusedVariables false
set_option linter.all false
set_option maxRecDepth 20000

/-- Turns in memory whose count of links is bounded. -/
def BS (W : World) (x g : Nat) (Q : Int) (s : SS) (B : Int) : Prop := ∃ st, 0 ≤ st ∧ st ≤ B ∧ TS W x g Q s st
theorem BS.only {w w' : World} {x g : Nat} {Q : Int} {s : SS} {B : Int} {S : List Nat} (h : BS w x g Q s B) (o : Only S w w') (hx : x ∉ S) (hg : g ∉ S) : BS w' x g Q s B := by
  obtain ⟨st, h1, h2, h3⟩ := h
  exact ⟨st, h1, h2, TT.only h3 o hx hg⟩
theorem opB {w : World} {x g : Nat} {Q : Int} {s : SS} {st B B' c c' : Int} {e : Ending} {w' : World} (h0 : 0 ≤ st) (hB : st ≤ B) (hB' : B' = B + 9) (hc : c = c') (h : OpE w x g Q st c s e w') : e = .returned (.int .i64 c') ∧ BS w' x g Q s B' ∧ Only [x, g] w w' := by
  obtain ⟨rfl, ⟨st', a, b, T⟩, o⟩ := h
  exact ⟨by rw [hc], ⟨st', by omega, by omega, T⟩, o⟩
section
variable (x g : Nat) (Q : Int) (s s' : SS) (B B' : Int)
theorem addB (hB : B < 700000) (hB' : B' = B + 9) (t p : Int) (rb : Bool) (c : Int) (hc : addC s t p = c) (hs : sAdd Q s t p rb = s') (W : World) (h : BS W x g Q s B) : Calls Try.prog 11 #[.pointer (some ⟨x, 0, none⟩), .int .i64 t, .int .i64 p, .bool rb] W fun e w' => e = .returned (.int .i64 c) ∧ BS w' x g Q s' B' ∧ Only [x, g] W w' := by
  obtain ⟨st, h1, h2, h3⟩ := h
  subst hs
  exact (add_spec x g Q s st ⟨h1, by omega⟩ t p rb W h3).mono fun e w' h => opB h1 h2 hB' hc h
theorem moveB (hB : B < 700000) (hB' : B' = B + 9) (t p : Int) (c : Int) (hc : inC s t p = c) (hs : sMove s t p = s') (W : World) (h : BS W x g Q s B) : Calls Try.prog 30 #[.pointer (some ⟨x, 0, none⟩), .int .i64 t, .int .i64 p] W fun e w' => e = .returned (.int .i64 c) ∧ BS w' x g Q s' B' ∧ Only [x, g] W w' := by
  obtain ⟨st, h1, h2, h3⟩ := h
  subst hs
  exact (move_spec x g Q s st ⟨h1, by omega⟩ t p W h3).mono fun e w' h => opB h1 h2 hB' hc h
theorem liftB (hB : B < 700000) (hB' : B' = B + 9) (t p : Int) (c : Int) (hc : inC s t p = c) (hs : sLift s t p = s') (W : World) (h : BS W x g Q s B) : Calls Try.prog 31 #[.pointer (some ⟨x, 0, none⟩), .int .i64 t, .int .i64 p] W fun e w' => e = .returned (.int .i64 c) ∧ BS w' x g Q s' B' ∧ Only [x, g] W w' := by
  obtain ⟨st, h1, h2, h3⟩ := h
  subst hs
  exact (lift_spec x g Q s st ⟨h1, by omega⟩ t p W h3).mono fun e w' h => opB h1 h2 hB' hc h
theorem yieldB (hB : B < 700000) (hB' : B' = B + 9) (t : Int) (c : Int) (hc : inC s t 1 = c) (hs : sYield s t = s') (W : World) (h : BS W x g Q s B) : Calls Try.prog 28 #[.pointer (some ⟨x, 0, none⟩), .int .i64 t] W fun e w' => e = .returned (.int .i64 c) ∧ BS w' x g Q s' B' ∧ Only [x, g] W w' := by
  obtain ⟨st, h1, h2, h3⟩ := h
  subst hs
  exact (yield_spec x g Q s st ⟨h1, by omega⟩ t W h3).mono fun e w' h => opB h1 h2 hB' hc h
theorem tickB (hB : B < 700000) (hB' : B' = B + 9) (hl : ∀ t, t < 16 → 0 ≤ s.lf t ∧ s.lf t ≤ 1000) (v : Int) (b : Bool) (o : Option Nat) (ho : tickT s = o) (hv : (match o with | none => (0 : Int) | some t => (t : Int)) = v) (hb : o.isSome = b) (hs : sTick Q s = s') (W : World) (h : BS W x g Q s B) : Calls Try.prog 13 #[.pointer (some ⟨x, 0, none⟩)] W fun e w' => e = .returned (.tuple #[.int .i64 v, .bool b]) ∧ BS w' x g Q s' B' ∧ Only [x, g] W w' := by
  obtain ⟨st, h1, h2, h3⟩ := h
  subst hs
  refine (tick_spec x g Q s st ⟨h1, by omega⟩ hl W h3).mono ?_
  rintro e w' ⟨he, ⟨st', a, b', T⟩, o'⟩
  refine ⟨?_, ⟨st', by omega, by omega, T⟩, o'⟩
  rw [ho] at he
  subst hv hb
  cases o <;> exact he
theorem runsB (hB : B < 700000) (hB' : B' = B + 9) (t : Int) (h1 : decide (allQ s.q ≠ []) = true) (h2 : firstT s.q = t) (W : World) (h : BS W x g Q s B) : Calls Try.prog 12 #[.pointer (some ⟨x, 0, none⟩), .int .i64 t] W fun e w' => e = .returned (.bool true) ∧ BS w' x g Q s B' ∧ Only [x, g] W w' := by
  obtain ⟨st, h3, h4, h5⟩ := h
  refine (runsT_spec x g Q s st ⟨h3, by omega⟩ t W h5).mono ?_
  rintro e w' ⟨rfl, ⟨st', a, b', T⟩, o'⟩
  exact ⟨by rw [h1, decide_eq_true h2]; rfl, ⟨st', by omega, by omega, T⟩, o'.mono (fun k hk => .inl (by simp at hk; simp [hk]))⟩
theorem leftB (hB' : B' = B) (t v : Int) (h1 : inS s t = true) (h2 : s.lf t.toNat = v) (W : World) (h : BS W x g Q s B) : Calls Try.prog 26 #[.pointer (some ⟨x, 0, none⟩), .int .i64 t] W fun e w' => e = .returned (.tuple #[.int .i64 v, .bool true]) ∧ BS w' x g Q s B' ∧ Only [] W w' := by
  have h' := h
  obtain ⟨st, h3, h4, h5⟩ := h'
  refine (tleft_spec x g Q s st t W h5).mono ?_
  rintro e w' ⟨he, hw⟩
  obtain rfl := hw.symm
  unfold pairE at he
  rw [h1, if_pos rfl, h2] at he
  exact ⟨he, hB' ▸ h, Only.refl _ _⟩
theorem ofB (hB' : B' = B) (p : Int) (l : List Nat) (hl : ofL s p = l) (n : Nat) (hn : l.length = n) (W : World) (h : BS W x g Q s B) : Calls Try.prog 16 #[.pointer (some ⟨x, 0, none⟩), .int .i64 p] W fun e w' => (∃ A c, e = .returned (.slice A n c) ∧ w'.ownsRow W.heap.size 3 1 (.slice A n c) n (NV l)) ∧ BS w' x g Q s B' ∧ Only [] W w' := by
  have h' := h
  obtain ⟨st, h3, h4, h5⟩ := h'
  refine (of_spec x g Q s st p W h5).mono ?_
  rintro e w' ⟨⟨A, c, he, ho⟩, o⟩
  rw [hl] at he ho
  subst hn
  exact ⟨⟨A, c, he, ho⟩, hB' ▸ h.only o (by simp) (by simp), o⟩
end
theorem Nsrc.lit (w : World) (l : List Nat) (cs : Array Value) (h : cs = (NV l).toArray) : Nsrc (w.alloc (.cells cs 3)) (some ⟨w.heap.size, 0, none⟩) l := fun _ => ⟨_, rfl, fun j t hj => by
  rw [(Blk.new w 3 cs).cell j, h, List.getElem?_toArray]
  exact NV_get l j t hj⟩
theorem only_in {w a b : World} {S : List Nat} (h : Only [] w a) (o : Only S a b) (hS : ∀ k ∈ S, w.heap.size ≤ k) : Only [] w b := h.trans o fun k hk => .inr (hS k hk)
def ks0 : SS := ⟨fun _ => [], fun _ => false, fun _ => 0⟩
def ks1 : SS := sAdd 2 ks0 1 5 true
def ks2 : SS := sAdd 2 ks1 2 5 true
def ks3 : SS := sAdd 2 ks2 3 4 false
def ks4 : SS := sAdd 2 ks3 1 5 true
def ks5 : SS := sTick 2 ks4
def ks6 : SS := sTick 2 ks5
def ks7 : SS := sMove ks6 3 6
def ks8 : SS := sMove ks7 3 5
def ks9 : SS := sLift ks8 1 7
def ks10 : SS := sLift ks9 1 5
def ks11 : SS := sYield ks10 1
set_option maxHeartbeats 8000000 in
theorem known_any (w : World) : Calls Try.prog 9 #[] w fun e w' => e = .returned (.bool true) ∧ Only [] w w' := by
  have NW := hide (tnew_good 2 (by decide) (by decide) w)
  unfold ptr at NW
  go_enter Try.func9, Try.ntmps9
  go_wp2_with (first
    | (go_at_call 10; refine NW.out.mono ?_; rintro e w0 ⟨x, g, he, r0, hx, hg, o0⟩; unfold newE at he; subst he; have R0 : BS w0 x g 2 ks0 0 := ⟨0, by decide, by decide, r0⟩; have hgS : ∀ k ∈ [x, g], w.heap.size ≤ k := (fun k hk => by simp at hk; rcases hk with rfl | rfl <;> assumption); clear r0))
  have T1 := hide (fun W h => addB x g 2 ks0 ks1 0 9 (by decide) (by decide) 1 5 true 0 (by decide +kernel) rfl W h)
  have T2 := hide (fun W h => addB x g 2 ks1 ks2 9 18 (by decide) (by decide) 2 5 true 0 (by decide +kernel) rfl W h)
  have T3 := hide (fun W h => addB x g 2 ks2 ks3 18 27 (by decide) (by decide) 3 4 false 0 (by decide +kernel) rfl W h)
  have T4 := hide (fun W h => addB x g 2 ks3 ks4 27 36 (by decide) (by decide) 1 5 true 7 (by decide +kernel) rfl W h)
  have T5 := hide (fun W h => runsB x g 2 ks4 36 45 (by decide) (by decide) 1 (by decide +kernel) (by decide +kernel) W h)
  have T6 := hide (fun W h => tickB x g 2 ks4 ks5 45 54 (by decide) (by decide) (by decide +kernel) 0 false none (by decide +kernel) rfl rfl rfl W h)
  have T7 := hide (fun W h => tickB x g 2 ks5 ks6 54 63 (by decide) (by decide) (by decide +kernel) 1 true (some 1) (by decide +kernel) rfl rfl rfl W h)
  have T8 := hide (fun W h => leftB x g 2 ks6 63 63 rfl 1 2 (by decide +kernel) (by decide +kernel) W h)
  have T9 := hide (fun W h => runsB x g 2 ks6 63 72 (by decide) (by decide) 2 (by decide +kernel) (by decide +kernel) W h)
  have T10 := hide (fun W h => moveB x g 2 ks6 ks7 72 81 (by decide) (by decide) 3 6 0 (by decide +kernel) rfl W h)
  have T11 := hide (fun W h => runsB x g 2 ks7 81 90 (by decide) (by decide) 3 (by decide +kernel) (by decide +kernel) W h)
  have T12 := hide (fun W h => moveB x g 2 ks7 ks8 90 99 (by decide) (by decide) 3 5 0 (by decide +kernel) rfl W h)
  have T13 := hide (fun W h => ofB x g 2 ks8 99 99 rfl 5 [3, 2, 1] (by decide +kernel) 3 rfl W h)
  have T14 := hide (fun W h => liftB x g 2 ks8 ks9 99 108 (by decide) (by decide) 1 7 0 (by decide +kernel) rfl W h)
  have T15 := hide (fun W h => runsB x g 2 ks9 108 117 (by decide) (by decide) 1 (by decide +kernel) (by decide +kernel) W h)
  have T16 := hide (fun W h => liftB x g 2 ks9 ks10 117 126 (by decide) (by decide) 1 5 0 (by decide +kernel) rfl W h)
  have T17 := hide (fun W h => ofB x g 2 ks10 126 126 rfl 5 [1, 3, 2] (by decide +kernel) 3 rfl W h)
  have T18 := hide (fun W h => yieldB x g 2 ks10 ks11 126 135 (by decide) (by decide) 1 0 (by decide +kernel) rfl W h)
  have T19 := hide (fun W h => ofB x g 2 ks11 135 135 rfl 5 [3, 2, 1] (by decide +kernel) 3 rfl W h)
  go_wp2_with (first
    | (go_at_call 11; (with_reducible refine (T1.out _ R0).mono ?_); rintro e w1 ⟨rfl, R1, o1⟩)
    | (go_at_call 11; (with_reducible refine (T2.out _ R1).mono ?_); rintro e w2 ⟨rfl, R2, o2⟩)
    | (go_at_call 11; (with_reducible refine (T3.out _ R2).mono ?_); rintro e w3 ⟨rfl, R3, o3⟩)
    | (go_at_call 11; (with_reducible refine (T4.out _ R3).mono ?_); rintro e w4 ⟨rfl, R4, o4⟩)
    | (go_at_call 12; (with_reducible refine (T5.out _ R4).mono ?_); rintro e w5 ⟨rfl, R5, o5⟩)
    | (go_at_call 13; (with_reducible refine (T6.out _ R5).mono ?_); rintro e w6 ⟨rfl, R6, o6⟩)
    | (go_at_call 13; (with_reducible refine (T7.out _ R6).mono ?_); rintro e w7 ⟨rfl, R7, o7⟩)
    | (go_at_call 26; (with_reducible refine (T8.out _ R7).mono ?_); rintro e w8 ⟨rfl, R8, o8⟩)
    | (go_at_call 12; (with_reducible refine (T9.out _ R8).mono ?_); rintro e w9 ⟨rfl, R9, o9⟩)
    | (go_at_call 30; (with_reducible refine (T10.out _ R9).mono ?_); rintro e w10 ⟨rfl, R10, o10⟩)
    | (go_at_call 12; (with_reducible refine (T11.out _ R10).mono ?_); rintro e w11 ⟨rfl, R11, o11⟩)
    | (go_at_call 30; (with_reducible refine (T12.out _ R11).mono ?_); rintro e w12 ⟨rfl, R12, o12⟩)
    | (go_at_call 16; (with_reducible refine (T13.out _ R12).mono ?_); rintro e w13 ⟨⟨A13, c13, rfl, own13⟩, R13, o13⟩)
    | (go_at_call 18; refine (ints_any A13 _ c13 3 [3, 2, 1] [3, 2, 1] _ ((Nsrc.own own13).only0 ((Only.refl [] _).alloc _)) (Nsrc.lit w13 [3, 2, 1] _ rfl) (by decide) (by decide)).mono ?_; rintro e v13 ⟨rfl, k13, hv13⟩; have p13 : Only [] w13 v13 := hv13 ▸ ((Only.refl [] _).alloc _).drewN _; have S13 := R13.only p13 (by simp) (by simp); clear hv13 own13)
    | (go_at_call 31; (with_reducible refine (T14.out _ S13).mono ?_); rintro e w14 ⟨rfl, R14, o14⟩)
    | (go_at_call 12; (with_reducible refine (T15.out _ R14).mono ?_); rintro e w15 ⟨rfl, R15, o15⟩)
    | (go_at_call 31; (with_reducible refine (T16.out _ R15).mono ?_); rintro e w16 ⟨rfl, R16, o16⟩)
    | (go_at_call 16; (with_reducible refine (T17.out _ R16).mono ?_); rintro e w17 ⟨⟨A17, c17, rfl, own17⟩, R17, o17⟩)
    | (go_at_call 18; refine (ints_any A17 _ c17 3 [1, 3, 2] [1, 3, 2] _ ((Nsrc.own own17).only0 ((Only.refl [] _).alloc _)) (Nsrc.lit w17 [1, 3, 2] _ rfl) (by decide) (by decide)).mono ?_; rintro e v17 ⟨rfl, k17, hv17⟩; have p17 : Only [] w17 v17 := hv17 ▸ ((Only.refl [] _).alloc _).drewN _; have S17 := R17.only p17 (by simp) (by simp); clear hv17 own17)
    | (go_at_call 28; (with_reducible refine (T18.out _ S17).mono ?_); rintro e w18 ⟨rfl, R18, o18⟩)
    | (go_at_call 16; (with_reducible refine (T19.out _ R18).mono ?_); rintro e w19 ⟨⟨A19, c19, rfl, own19⟩, R19, o19⟩)
    | (go_at_call 18; refine (ints_any A19 _ c19 3 [3, 2, 1] [3, 2, 1] _ ((Nsrc.own own19).only0 ((Only.refl [] _).alloc _)) (Nsrc.lit w19 [3, 2, 1] _ rfl) (by decide) (by decide)).mono ?_; rintro e v19 ⟨rfl, k19, hv19⟩; have p19 : Only [] w19 v19 := hv19 ▸ ((Only.refl [] _).alloc _).drewN _; have S19 := R19.only p19 (by simp) (by simp); clear hv19 own19))
  go_ret
  exact ⟨rfl, ((only_in (((only_in (only_in (only_in (((only_in (only_in (only_in (only_in ((only_in (only_in (only_in (only_in (only_in (only_in (only_in (o0) o1 hgS) o2 hgS) o3 hgS) o4 hgS) o5 hgS) o6 hgS) o7 hgS).trans0 o8) o9 hgS) o10 hgS) o11 hgS) o12 hgS).trans0 o13).trans0 p13) o14 hgS) o15 hgS) o16 hgS).trans0 o17).trans0 p17) o18 hgS).trans0 o19).trans0 p19⟩
end Go.Proofs.Ytnndengdlokmbaa
