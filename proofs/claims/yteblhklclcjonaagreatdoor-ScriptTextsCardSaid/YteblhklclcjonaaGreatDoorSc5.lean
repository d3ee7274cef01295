/- Script: how long a script's text is. No condition. -/
import Derived.Test.YteblhklclcjonaaGreatDoorSc4
namespace Go.Proofs.YteblhklclcjonaaGreatDoor
open Go.Lib
set_option linter.unusedVariables false
set_option linter.all false
set_option maxRecDepth 20000

def wtT (ts : List (List UInt8)) : Nat := (ts.map fun t => t.length + 1).sum
theorem progsB_le (ps : List (List Ins)) (h : ∀ p ∈ ps, gP p) : (progsB ps).length ≤ 37 * linesP ps := by
  induction ps with
  | nil => simp [progsB]
  | cons p ps ih =>
    have e : progsB (p :: ps) = progW ++ 10 :: (txtL p ++ progsB ps) := by simp [progsB]
    have hS : linesP (p :: ps) = p.length + 1 + linesP ps := by simp [linesP]
    have h1 := ih (fun q hq => h q (by simp [hq]))
    have h2 := txtL_len p (h p (by simp)).2
    rw [e, hS]
    have : progW.length = 7 := rfl
    simp only [List.length_append, List.length_cons]
    omega
theorem textsB_le (ts : List (List UInt8)) : (textsB ts).length ≤ 7 * wtT ts := by
  induction ts with
  | nil => simp [textsB]
  | cons t ts ih =>
    have e : textsB (t :: ts) = (textW ++ 32 :: wordB t) ++ 10 :: textsB ts := by simp [textsB]
    have hS : wtT (t :: ts) = t.length + 1 + wtT ts := by simp [wtT]
    have h2 := (wordB_facts t).2
    rw [e, hS]
    have : textW.length = 4 := rfl
    simp only [List.length_append, List.length_cons]
    omega
theorem strB_le (l : List Str) (h : ∀ x ∈ l, mayS x = true) : (strB l).length ≤ 33 * l.length := by
  induction l with
  | nil => simp [strB]
  | cons x l ih =>
    have h1 := ih (fun y hy => h y (by simp [hy]))
    have h2 := (lineT_facts (h x (by simp))).2.1
    have e : strB (x :: l) = lineT x ++ 10 :: strB l := by simp [strB]
    rw [e]
    simp only [List.length_append, List.length_cons]
    omega
theorem strF_len : ∀ l : List Ev, (strF l).length ≤ l.length
  | [] => Nat.le_refl _
  | e :: r => by
    have ih := strF_len r
    cases he : mayE e with
    | false => rw [strF_bad he]; simp
    | true =>
      rw [strF_cons he]
      cases hx : strF r with
      | nil => simp [joinS]
      | cons x xs =>
        rw [hx] at ih
        by_cases hc : e.kind ≠ 3 ∧ x.ev = e
        · rw [joinS_same _ hc.1 hc.2]; simp at ih ⊢; omega
        · rw [joinS_other _ hc]; simp at ih ⊢; omega
theorem headB_len (v : Nat → Int) : (headB v).length ≤ 141 := by
  have h : ∀ q, (headN v q).length ≤ 3 + 23 * q := by
    intro q
    induction q with
    | zero => exact Nat.le_refl _
    | succ q ih =>
      have := pl_itoaF (v q)
      unfold headN
      simp only [List.length_append, List.length_cons]
      omega
  exact h 6
theorem scrB_le {s : Sc} (h : GoodS s) (hw : linesP s.ps + wtT s.ts ≤ 9000) : (scrB s).length ≤ 1048576 := by
  have h1 := progsB_le s.ps h.pg
  have h2 := textsB_le s.ts
  have hm : ∀ x ∈ strF s.es, mayS x = true := fun x hx => (strF_may s.es h.el x hx).1
  have h3 := strB_le _ hm
  have h4 := strF_len s.es
  have h5 := headB_len s.v
  have h6 := h.el
  unfold scrB jobB
  simp only [List.length_append, List.length_cons]
  omega
end Go.Proofs.YteblhklclcjonaaGreatDoor
