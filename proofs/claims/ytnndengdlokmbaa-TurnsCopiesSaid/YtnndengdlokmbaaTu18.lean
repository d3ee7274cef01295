/- Turns: what a step does; the walk of doesOne. Condition: the turns lie. -/
import Derived.Test.YtnndengdlokmbaaTu17
namespace Go.Proofs.Ytnndengdlokmbaa
open Go.RowKit
set_option linter.unusedVariables false
set_option linter.all false
set_option maxRecDepth 20000

/-- What the law's slices of steps hold. -/
def StepsAt (w : World) (A : Option Addr) (n : Nat) : Prop := ∀ k, k < n → ∃ (a : Addr) (kd t p : Int) (rb : Bool), A = some a ∧ w.cell? (a.add (k * 4)) = some (.int .i64 kd) ∧ w.cell? ⟨(a.add (k * 4)).block, (a.add (k * 4)).off + 1, none⟩ = some (.int .i64 t) ∧ w.cell? ⟨(a.add (k * 4)).block, (a.add (k * 4)).off + 2, none⟩ = some (.int .i64 p) ∧ w.cell? ⟨(a.add (k * 4)).block, (a.add (k * 4)).off + 3, none⟩ = some (.bool rb)
theorem StepsAt.only0 {w w' : World} {A : Option Addr} {n : Nat} (h : StepsAt w A n) (ho : Only [] w w') : StepsAt w' A n := fun k hk => by
  obtain ⟨a, kd, t, p, rb, rfl, h0, h1, h2, h3⟩ := h k hk
  exact ⟨a, kd, t, p, rb, rfl, ho.keep0 h0, ho.keep0 h1, ho.keep0 h2, ho.keep0 h3⟩
/-- The turns behind a step. -/
def stepS (Q : Int) (s : SS) (kd t p : Int) (rb : Bool) : SS := if kd = 1 then sAdd Q s t p rb else if kd = 2 then sLeave s t else if kd = 3 then sYield s t else if kd = 4 then sTick Q s else if kd = 5 then sPut Q s t p rb else if kd = 6 then sMove s t p else if kd = 7 then sLift s t p else s
def LfOk (s : SS) : Prop := ∀ t, 0 ≤ s.lf t ∧ s.lf t ≤ 1000
section
variable (x g : Nat) (Q : Int) (s s' : SS) (B B' : Int)
theorem leaveB (hB : B < 700000) (hB' : B' = B + 9) (t : Int) (c : Int) (hc : inC s t 1 = c) (hs : sLeave s t = s') (W : World) (h : BS W x g Q s B) : Calls Try.prog 27 #[.pointer (some ⟨x, 0, none⟩), .int .i64 t] W fun e w' => e = .returned (.int .i64 c) ∧ BS w' x g Q s' B' ∧ Only [x, g] W w' := by
  obtain ⟨st, h1, h2, h3⟩ := h
  subst hs
  exact (leave_spec x g Q s st ⟨h1, by omega⟩ t W h3).mono fun e w' h => opB h1 h2 hB' hc h
theorem putB (hB : B < 700000) (hB' : B' = B + 9) (t p : Int) (rb : Bool) (c : Int) (hc : inC s t p = c) (hs : sPut Q s t p rb = s') (W : World) (h : BS W x g Q s B) : Calls Try.prog 29 #[.pointer (some ⟨x, 0, none⟩), .int .i64 t, .int .i64 p, .bool rb] W fun e w' => e = .returned (.int .i64 c) ∧ BS w' x g Q s' B' ∧ Only [x, g] W w' := by
  obtain ⟨st, h1, h2, h3⟩ := h
  subst hs
  exact (put_spec x g Q s st ⟨h1, by omega⟩ t p rb W h3).mono fun e w' h => opB h1 h2 hB' hc h
theorem tickU (hB : B < 700000) (hl : LfOk s) (W : World) (h : BS W x g Q s B) : ∃ v b, Calls Try.prog 13 #[.pointer (some ⟨x, 0, none⟩)] W fun e w' => e = .returned (.tuple #[.int .i64 v, .bool b]) ∧ BS w' x g Q (sTick Q s) (B + 9) ∧ Only [x, g] W w' := by
  cases hT : tickT s with
  | none => exact ⟨0, false, tickB x g Q s _ B (B + 9) hB rfl (fun t _ => hl t) 0 false none hT rfl rfl rfl W h⟩
  | some t => exact ⟨t, true, tickB x g Q s _ B (B + 9) hB rfl (fun t _ => hl t) t true (some t) hT rfl rfl rfl W h⟩
end
theorem LfOk.step {Q : Int} {s : SS} (q1 : 1 ≤ Q) (q2 : Q ≤ 100) (h : LfOk s) (kd t p : Int) (rb : Bool) : LfOk (stepS Q s kd t p rb) := by
  have U : ∀ (f : Nat → Int) (i : Nat) (v : Int), (∀ t, 0 ≤ f t ∧ f t ≤ 1000) → 0 ≤ v → v ≤ 1000 → ∀ t, 0 ≤ upd f i v t ∧ upd f i v t ≤ 1000 := by
    intro f i v hf h1 h2 t
    unfold upd
    split
    · exact ⟨h1, h2⟩
    · exact hf t
  unfold stepS
  split
  · unfold sAdd; split
    · exact U _ _ _ h (by omega) (by omega)
    · exact h
  split
  · unfold sLeave; split
    · exact U _ _ _ h (by omega) (by omega)
    · exact h
  split
  · unfold sYield; split <;> exact h
  split
  · unfold sTick
    cases allQ s.q with
    | nil => exact h
    | cons y m =>
      show LfOk (if s.rob y.2 = true then _ else s)
      split
      · split
        · have := h y.2
          exact U _ _ _ h (by omega) (by omega)
        · exact U _ _ _ h (by omega) (by omega)
      · exact h
  split
  · unfold sPut; split
    · exact U _ _ _ h (by omega) (by omega)
    · exact h
  split
  · unfold sMove; split <;> exact h
  split
  · unfold sLift; split <;> exact h
  · exact h
def DoE (w : World) (x g : Nat) (Q : Int) (s : SS) (B : Int) (e : Ending) (w' : World) : Prop := e = .returned (.tuple #[]) ∧ BS w' x g Q s B ∧ Only [x, g] w w'

set_option maxHeartbeats 4000000 in
theorem one_any (x g : Nat) (Q : Int) (s : SS) (B : Int) (hB : B < 700000) (hl : LfOk s) (kd t p : Int) (rb : Bool) (w : World) (h : BS w x g Q s B) :
    Calls Try.prog 17 #[.pointer (some ⟨x, 0, none⟩), .agg #[.int .i64 kd, .int .i64 t, .int .i64 p, .bool rb]] w (DoE w x g Q (stepS Q s kd t p rb) (B + 9)) := by
  have bX := Blk.new w 39 #[.int .i64 kd, .int .i64 t, .int .i64 p, .bool rb]
  have oX : Only [] w (w.alloc (.cells #[.int .i64 kd, .int .i64 t, .int .i64 p, .bool rb] 39)) := (Only.refl [] w).alloc _
  obtain ⟨W, hW⟩ : ∃ W, w.alloc (.cells #[.int .i64 kd, .int .i64 t, .int .i64 p, .bool rb] 39) = W := ⟨_, rfl⟩
  obtain ⟨X, hX⟩ : ∃ X, w.heap.size = X := ⟨_, rfl⟩
  rw [hX] at bX
  rw [hW] at bX oX
  have hBW : BS W x g Q s B := BS.only h oX (by simp) (by simp)
  have k0 : W.cell? ⟨X, 0, none⟩ = some (.int .i64 kd) := (bX.cell 0).trans rfl
  have k1 : W.cell? ⟨X, 1, none⟩ = some (.int .i64 t) := (bX.cell 1).trans rfl
  have k2 : W.cell? ⟨X, 2, none⟩ = some (.int .i64 p) := (bX.cell 2).trans rfl
  have k3 : W.cell? ⟨X, 3, none⟩ = some (.bool rb) := (bX.cell 3).trans rfl
  have OX := hide oX
  clear bX oX
  by_cases c1 : kd = 1
  · subst c1
    have SP := addB x g Q s _ B (B + 9) hB rfl t p rb _ rfl rfl W hBW
    have hs : stepS Q s 1 t p rb = sAdd Q s t p rb := by unfold stepS; simp
    rw [hs]
    have SP := hide SP
    clear hs hBW h
    go_enter Try.func17, Try.ntmps17
    go_wp2_with (go_at_call 11; refine SP.out.mono ?_; rintro e w2 ⟨rfl, hB2, o2⟩)
    go_end0
    exact ⟨rfl, BS.mono (by omega) hB2, (OX.out.mono (by simp)).trans' o2⟩
  have d1 : (kd == 1) = false := by simp [c1]
  by_cases c2 : kd = 2
  · subst c2
    have SP := leaveB x g Q s _ B (B + 9) hB rfl t _ rfl rfl W hBW
    have hs : stepS Q s 2 t p rb = sLeave s t := by unfold stepS; simp
    rw [hs]
    have SP := hide SP
    clear hs hBW h
    go_enter Try.func17, Try.ntmps17
    go_wp2_with (go_at_call 27; refine SP.out.mono ?_; rintro e w2 ⟨rfl, hB2, o2⟩)
    go_end0
    exact ⟨rfl, BS.mono (by omega) hB2, (OX.out.mono (by simp)).trans' o2⟩
  have d2 : (kd == 2) = false := by simp [c2]
  by_cases c3 : kd = 3
  · subst c3
    have SP := yieldB x g Q s _ B (B + 9) hB rfl t _ rfl rfl W hBW
    have hs : stepS Q s 3 t p rb = sYield s t := by unfold stepS; simp
    rw [hs]
    have SP := hide SP
    clear hs hBW h
    go_enter Try.func17, Try.ntmps17
    go_wp2_with (go_at_call 28; refine SP.out.mono ?_; rintro e w2 ⟨rfl, hB2, o2⟩)
    go_end0
    exact ⟨rfl, BS.mono (by omega) hB2, (OX.out.mono (by simp)).trans' o2⟩
  have d3 : (kd == 3) = false := by simp [c3]
  by_cases c4 : kd = 4
  · subst c4
    obtain ⟨v, b, SP⟩ := tickU x g Q s B hB hl W hBW
    have hs : stepS Q s 4 t p rb = sTick Q s := by unfold stepS; simp
    rw [hs]
    have SP := hide SP
    clear hs hBW h
    go_enter Try.func17, Try.ntmps17
    go_wp2_with (go_at_call 13; refine SP.out.mono ?_; rintro e w2 ⟨rfl, hB2, o2⟩)
    go_end0
    exact ⟨rfl, BS.mono (by omega) hB2, (OX.out.mono (by simp)).trans' o2⟩
  have d4 : (kd == 4) = false := by simp [c4]
  by_cases c5 : kd = 5
  · subst c5
    have SP := putB x g Q s _ B (B + 9) hB rfl t p rb _ rfl rfl W hBW
    have hs : stepS Q s 5 t p rb = sPut Q s t p rb := by unfold stepS; simp
    rw [hs]
    have SP := hide SP
    clear hs hBW h
    go_enter Try.func17, Try.ntmps17
    go_wp2_with (go_at_call 29; refine SP.out.mono ?_; rintro e w2 ⟨rfl, hB2, o2⟩)
    go_end0
    exact ⟨rfl, BS.mono (by omega) hB2, (OX.out.mono (by simp)).trans' o2⟩
  have d5 : (kd == 5) = false := by simp [c5]
  by_cases c6 : kd = 6
  · subst c6
    have SP := moveB x g Q s _ B (B + 9) hB rfl t p _ rfl rfl W hBW
    have hs : stepS Q s 6 t p rb = sMove s t p := by unfold stepS; simp
    rw [hs]
    have SP := hide SP
    clear hs hBW h
    go_enter Try.func17, Try.ntmps17
    go_wp2_with (go_at_call 30; refine SP.out.mono ?_; rintro e w2 ⟨rfl, hB2, o2⟩)
    go_end0
    exact ⟨rfl, BS.mono (by omega) hB2, (OX.out.mono (by simp)).trans' o2⟩
  have d6 : (kd == 6) = false := by simp [c6]
  by_cases c7 : kd = 7
  · subst c7
    have SP := liftB x g Q s _ B (B + 9) hB rfl t p _ rfl rfl W hBW
    have hs : stepS Q s 7 t p rb = sLift s t p := by unfold stepS; simp
    rw [hs]
    have SP := hide SP
    clear hs hBW h
    go_enter Try.func17, Try.ntmps17
    go_wp2_with (go_at_call 31; refine SP.out.mono ?_; rintro e w2 ⟨rfl, hB2, o2⟩)
    go_end0
    exact ⟨rfl, BS.mono (by omega) hB2, (OX.out.mono (by simp)).trans' o2⟩
  have d7 : (kd == 7) = false := by simp [c7]
  have hs : stepS Q s kd t p rb = s := by unfold stepS; simp [c1, c2, c3, c4, c5, c6, c7]
  rw [hs]
  clear hs h c1 c2 c3 c4 c5 c6 c7
  have HB := hide hBW
  clear hBW
  go_enter Try.func17, Try.ntmps17
  go_wp2_with fail
  go_end0
  exact ⟨rfl, BS.mono (by omega) HB.out, OX.out.mono (by simp)⟩
end Go.Proofs.Ytnndengdlokmbaa
