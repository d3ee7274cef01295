/- Turns: what they are in memory; a thread that goes elsewhere (plain); the walks of is, thread, priority, New, Runs. Condition: the turns lie. -/
import Derived.Test.YtnndengdlokmbaaRd17
namespace Go.Proofs.Ytnndengdlokmbaa
open Go.RowKit
set_option linter.unusedVariables false
set_option linter.all false
set_option maxRecDepth 20000

section
variable {w : World} {g : Nat} {q : Nat → List Nat} {st : Int}
theorem RL.mem_lt (h : RL w g q st) {p t : Nat} (hm : t ∈ q p) : t < 16 ∧ 1 ≤ p ∧ p ≤ 31 := by
  obtain ⟨s, prio, bits, _, hR⟩ := h
  exact ⟨hR.lt p t hm, hR.out p t hm⟩
theorem RL.prio_mem (h : RL w g q st) {p t : Nat} (hm : t ∈ q p) : prioQ q t = p := by
  obtain ⟨s, prio, bits, _, hR⟩ := h
  have h1 := hR.prioQ (hR.lt p t hm)
  rw [hR.pr1 p t hm] at h1
  omega
theorem prioQ_zero {q : Nat → List Nat} {t : Nat} (hn : ∀ p, t ∉ q p) : prioQ q t = 0 := by
  unfold prioQ
  have : (List.range 32).find? (fun p => (q p).contains t) = none := by
    rw [List.find?_eq_none]
    intro j _
    simpa using hn j
  rw [this]
  rfl
theorem prioQ_in {q : Nat → List Nat} {t : Nat} (hp : prioQ q t ≠ 0) : t ∈ q (prioQ q t) := by
  unfold prioQ at hp ⊢
  cases hf : (List.range 32).find? fun p => (q p).contains t with
  | none => rw [hf] at hp; simp at hp
  | some p =>
    have := List.find?_some hf
    simpa using this
/-- Two lists of sequences in which a thread stands alike. -/
theorem RL.prio_eq {w' : World} {g' : Nat} {q' : Nat → List Nat} {st' : Int} (h : RL w g q st) (h' : RL w' g' q' st') {u : Nat} (hu : ∀ j, u ∈ q' j ↔ u ∈ q j) : prioQ q' u = prioQ q u := by
  by_cases hz : prioQ q u = 0
  · rw [hz]
    exact prioQ_zero fun j hj => by
      have := h.prio_mem ((hu j).1 hj)
      have := (h.mem_lt ((hu j).1 hj)).2
      omega
  · exact h'.prio_mem ((hu _).2 (prioQ_in hz))
end
/-- A thread of a sequence goes elsewhere. -/
def moveQ (q : Nat → List Nat) (t p : Nat) (hd : Bool) : Nat → List Nat := if hd then putHQ (remQ q t) p t else putTQ (remQ q t) p t
/-- The cells of turns. -/
structure TC (cs : Array Value) (g : Nat) (Q : Int) (q : Nat → List Nat) (rob : Nat → Bool) (lf : Nat → Int) : Prop where
  size : cs.size = 66
  r : cs[0]? = some (.pointer (some ⟨g, 0, none⟩))
  qu : cs[1]? = some (.int .i64 Q)
  inn : ∀ t, t < 16 → cs[2 + t * 4]? = some (.bool (decide (prioQ q t ≠ 0)))
  rob : ∀ t, t < 16 → cs[2 + t * 4 + 1]? = some (.bool (rob t))
  pr : ∀ t, t < 16 → cs[2 + t * 4 + 2]? = some (.int .i64 (prioQ q t : Int))
  lf : ∀ t, t < 16 → cs[2 + t * 4 + 3]? = some (.int .i64 (lf t))
/-- Turns in memory. -/
def TT (W : World) (x g : Nat) (Q : Int) (q : Nat → List Nat) (rob : Nat → Bool) (lf : Nat → Int) (st : Int) : Prop := (∃ cs, Blk W x 60 cs ∧ TC cs g Q q rob lf) ∧ RL W g q st
theorem TT.only {w w' : World} {x g : Nat} {Q : Int} {q : Nat → List Nat} {rob : Nat → Bool} {lf : Nat → Int} {st : Int} {S : List Nat} (h : TT w x g Q q rob lf st) (o : Only S w w') (hx : x ∉ S) (hg : g ∉ S) : TT w' x g Q q rob lf st := by
  obtain ⟨⟨cs, hb, hC⟩, hR⟩ := h
  exact ⟨⟨cs, hb.only o hx, hC⟩, hR.only o hg⟩
theorem TT.ne {w : World} {x g : Nat} {Q : Int} {q : Nat → List Nat} {rob : Nat → Bool} {lf : Nat → Int} {st : Int} (h : TT w x g Q q rob lf st) : x ≠ g := by
  obtain ⟨⟨cs, hb, hC⟩, s, prio, bits, ⟨cs', hb', _⟩, _⟩ := h
  exact Blk.ne_ hb hb' (by decide)
theorem is_any (x g : Nat) (w : World) (h0 : w.cell? ⟨x, 0, none⟩ = some (.pointer (some ⟨g, 0, none⟩))) : Calls Try.prog 34 #[ptr x] w fun e w' => e = .returned (.bool true) ∧ w' = w := by
  unfold ptr
  go_enter Try.func34, Try.ntmps34
  go_wp2_with fail
  go_ret
  exact ⟨rfl, rfl⟩
theorem tthread_any (t : Int) (w : World) : Calls Try.prog 35 #[.int .i64 t] w fun e w' => e = .returned (.bool (decide (0 ≤ t) && decide (t < 16))) ∧ w' = w := by
  go_enter Try.func35, Try.ntmps35
  go_wp2_with fail
  all_goals go_ret
  all_goals (refine ⟨?_, rfl⟩; first | (simp [*]; done) | (simp [*]; omega))
theorem priority_any (p : Int) (w : World) : Calls Try.prog 36 #[.int .i64 p] w fun e w' => e = .returned (.bool (decide (1 ≤ p) && decide (p ≤ 31))) ∧ w' = w := by
  go_enter Try.func36, Try.ntmps36
  go_wp2_with fail
  all_goals go_ret
  all_goals (refine ⟨?_, rfl⟩; first | (simp [*]; done) | (simp [*]; omega))
theorem runs_any (x g : Nat) (Q : Int) (q : Nat → List Nat) (rob : Nat → Bool) (lf : Nat → Int) (st : Int) (hst : 0 ≤ st ∧ st < 1000000) (w : World) (h : TT w x g Q q rob lf st) :
    Calls Try.prog 14 #[ptr x] w fun e w' => firstE (firstT q) (decide (allQ q ≠ [])) e ∧ (∃ st', st ≤ st' ∧ st' ≤ st + 1 ∧ TT w' x g Q q rob lf st') ∧ Only [g] w w' := by
  have hne := h.ne
  obtain ⟨⟨cs, hb, hC⟩, hR⟩ := h
  have k0 := (hb.cell 0).trans hC.r
  have IS := hide (is_any x g w k0)
  have FI := first_spec g q st hst w hR
  obtain ⟨bz, hbz⟩ : ∃ bz, decide (allQ q ≠ []) = bz := ⟨_, rfl⟩
  obtain ⟨fT, hfT⟩ : ∃ fT, firstT q = fT := ⟨_, rfl⟩
  rw [hbz, hfT] at FI ⊢
  have FI := hide FI
  have HB := hide hb
  have HC := hide hC
  clear hbz hfT hb hC hR
  unfold ptr at IS FI ⊢
  go_enter Try.func14, Try.ntmps14
  go_wp2_with (first
    | (go_at_call 34; refine IS.out.mono ?_; rintro e w' ⟨rfl, hw⟩; obtain rfl := hw.symm; clear hw)
    | (go_at_call 39; refine FI.out.mono ?_; rintro e w2 ⟨he, ⟨st2, s1, s2, R2⟩, o2⟩; unfold firstE at he; subst he; have HS1 := hide s1; have HS2 := hide s2; clear s1 s2))
  refine bodyPost_ret (v := .tuple #[.int .i64 fT, .bool bz]) (by simp [results, Try.results14, go_sem]) rfl ⟨rfl, ⟨st2, HS1.out, HS2.out, ⟨_, HB.out.only o2 (by simp; exact hne), HC.out⟩, R2⟩, o2⟩
end Go.Proofs.Ytnndengdlokmbaa
