/- Script: the walk of Parse. Condition: Env; a text of at most 2000000 bytes. -/
import Derived.Test.YteblhklclcjonaaGreatDoorSr4
import Derived.Test.YteblhklclcjonaaGreatDoorSh2
import Derived.ScopeJumps
import Derived.Scope
import Derived.OwnWalk
namespace Go.Proofs.YteblhklclcjonaaGreatDoor
open Go.RowKit
set_option linter.unusedVariables false
set_option linter.all false
set_option maxRecDepth 20000

/-- As Q; by the goto to label l, ahead: K. -/
def fwd (l : Nat) (K : Act → World → Prop) (Q : Exit → Act → World → Prop) : Exit → Act → World → Prop
  | .goto l', a, w => l' = l ∧ K a w
  | e, a, w => Q e a w
theorem wp_scope_fwd {P : Program} {c rest : Code} {a : Act} {w : World} {Q : Exit → Act → World → Prop} (l : Nat) (hf : findLabel c l = some rest) (h : ∀ K : Act → World → Prop, (∀ a w, rest.wp P (Exit.noGoto Q) a w → K a w) → c.wp P (fwd l K Q) a w) : (Code.scope c).wp P Q a w := by
  refine wp_scope_jumps l (fun a w => rest.wp P (Exit.noGoto Q) a w) (fun _ _ => 0) hf ?_ ?_
  · have := h (fun a w => rest.wp P (Exit.noGoto Q) a w) (fun _ _ h => h)
    have e : fwd l (fun a w => rest.wp P (Exit.noGoto Q) a w) Q = Exit.jump l (fun a w => rest.wp P (Exit.noGoto Q) a w) Q := by
      funext e a w
      cases e <;> rfl
    rw [e] at this
    exact this
  · intro a w hJ
    refine Code.wp_mono ?_ hJ
    intro e a w h
    cases e with
    | goto l' => exact h.elim
    | normal => exact h
    | exit id => exact h
    | ret => exact h
    | panic ch => exact h
    | outgrown => exact h
theorem load54 {w : World} {g : Nat} {a b c d e f x y z : Value} (h : Blk w g 54 #[a, b, c, d, e, f, x, y, z]) : (loadVar 54 ⟨g, 0, none⟩).run Tryz.prog w = .ok (.agg #[a, b, c, d, e, f, x, y, z]) w := by
  have x0 := h.cell 0
  have x1 := h.cell 1
  have x2 := h.cell 2
  have x3 := h.cell 3
  have x4 := h.cell 4
  have x5 := h.cell 5
  have x6 := h.cell 6
  have x7 := h.cell 7
  have x8 := h.cell 8
  simp [go_sem, x0, x1, x2, x3, x4, x5, x6, x7, x8]
theorem results_cell3 {fn : Func} {t u s : Tmp} {ty : TypeId} (h : fn.results = #[.cell t ty, .tmp u, .tmp s]) {tmps : Array Value} {P : Program} {w : World} {g : Addr} {v x y : Value} (h0 : tmps.getD t undef = .pointer (some g)) (hx : tmps.getD u undef = x) (hy : tmps.getD s undef = y) (hl : (loadVar ty g).run P w = .ok v w) :
    (results fn tmps).run P w = .ok (.tuple #[v, x, y]) w := by
  have h1 : tmps[t]?.getD undef = .pointer (some g) := by rw [← Array.getD_eq_getD_getElem?]; exact h0
  have h2 : tmps[u]?.getD undef = x := by rw [← Array.getD_eq_getD_getElem?]; exact hx
  have h3 : tmps[s]?.getD undef = y := by rw [← Array.getD_eq_getD_getElem?]; exact hy
  simp [results, h, h1, h2, h3, asAddr, hl]
theorem RdOk.step {r r' : Rd} {s : List UInt8} {len : Int} (h : RdOk r) (hs : lineR r s len = some r') : RdOk r' := by
  obtain ⟨o1, o2, o3, o4, o5⟩ := h
  have hE : ∀ x, evR r x = some r' → RdOk r' := by
    intro x hx
    unfold evR at hx
    split at hx
    · cases hx
    · rename_i hc
      injection hx with hx
      subst hx
      refine ⟨by simp, o2, o3, o4, ?_⟩
      have h3 : ¬ 8192 < (r.es.length : Int) + x.n := fun h => hc (.inr (.inr h))
      simp only [List.length_append, List.length_replicate]
      omega
  have hI : ∀ i, inR r i len = some r' → RdOk r' := by
    intro i hx
    unfold inR at hx
    split at hx
    · cases hx
    · rename_i hc
      injection hx with hx
      subst hx
      have h1 : r.at' = 1 := Classical.byContradiction (fun h => hc (.inl h))
      have h3 : ¬ 256 < (r.ps.getLastD []).length + 1 := fun h => hc (.inr (.inr h))
      have hne := o1 h1
      have hd : r.ps.dropLast.length = r.ps.length - 1 := by simp
      have hp0 : 0 < r.ps.length := List.length_pos_iff.2 hne
      refine ⟨fun _ => by simp, ?_, ?_, o4, o5⟩
      · simp
        simp at h3
        omega
      · simp only [List.length_append, List.length_cons, List.length_nil, hd]
        omega
  have hP : prR r = some r' → RdOk r' := by
    intro hx
    unfold prR at hx
    split at hx
    · cases hx
    · rename_i hc
      injection hx with hx
      subst hx
      have h2 : ¬ 32 ≤ r.ps.length := fun h => hc (.inr h)
      exact ⟨by simp, by simp, by simp; omega, o4, o5⟩
  have hT : ∀ w, txR r w = some r' → RdOk r' := by
    intro w hx
    unfold txR at hx
    split at hx
    · cases hx
    · split at hx
      · cases hx
      · rename_i hc
        injection hx with hx
        subst hx
        exact ⟨by simp, o2, o3, by have h2 : ¬ 32 ≤ r.ts.length := fun h => hc (.inr (.inr h)); simp; omega, o5⟩
  unfold lineR at hs
  split at hs
  · exact hE _ hs
  · split at hs
    · exact hI _ hs
    · split at hs
      · exact hP hs
      · split at hs
        · exact hT _ hs
        · cases hs
def z9 : Array Value := #[.int .i64 0, .int .i64 0, .int .i64 0, .int .i64 0, .int .i64 0, .int .i64 0, .slice none 0 0, .slice none 0 0, .slice none 0 0]
/-- What Parse answers, and what lies behind it. -/
def ParA (B : Nat) (w' : World) (e : Ending) : Option Sc × Nat × Int → Prop
  | (none, n, er) => e = .returned (.tuple #[.agg z9, .int .i64 n, .int .i64 er])
  | (some c, n, er) => ∃ A k vs TA tc EA ec, e = .returned (.tuple #[.agg #[.int .i64 (c.v 0), .int .i64 (c.v 1), .int .i64 (c.v 2), .int .i64 (c.v 3), .int .i64 (c.v 4), .int .i64 (c.v 5), .slice A c.ps.length k, .slice TA c.ts.length tc, .slice EA c.es.length ec], .int .i64 n, .int .i64 er]) ∧ Ps w' B A k vs c.ps ∧ Qs w' B TA tc (c.ts.map bs) ∧ Es w' B EA ec c.es
theorem parL_nil (f n : Nat) (len : Int) (r : Rd) (h : 0 < f) : parL f n len r [] = (n, if r.at' = 0 then none else some r) := by
  obtain ⟨g, rfl⟩ : ∃ g, f = g + 1 := ⟨f - 1, by omega⟩
  unfold parL
  rw [if_pos rfl]
theorem parL_step {f n : Nat} {len : Int} {r : Rd} {t : List UInt8} (ht : t ≠ []) : parL (f + 1) n len r t = if (cutAt 10 t).2.2 = true then match lineR r (cutAt 10 t).1 (lenR (cutAt 10 t).1 (cutAt 10 t).2.1 len) with
      | none => (n, none)
      | some r' => parL f (n + 1) (lenR (cutAt 10 t).1 (cutAt 10 t).2.1 len) r' (cutAt 10 t).2.1
    else (n, none) := by
  conv => lhs; unfold parL
  rw [if_neg ht]
  rfl
/-- What a reader's lines answer. -/
def parG (v : Nat → Int) : Nat × Option Rd → Option Sc × Nat × Int
  | (n, none) => (none, n, 4)
  | (n, some r) => (some ⟨v, r.ps, r.ts, r.es⟩, 0, 0)
theorem parF_eq (t : List UInt8) : parF t = if 1048576 < t.length then (none, 0, 3) else
      if hdOk (cutAt 10 t).1 = true ∧ (cutAt 10 t).2.2 = true then parG (numN (cutAt 10 t).1) (parL (t.length + 1) 1 0 ⟨[], [], [], 0⟩ (cutAt 10 t).2.1) else (none, 0, 4) := by
  unfold parF parG
  rfl
theorem only_below {a b c : World} {B : Nat} (o : Only [] a b) (h : Below B b c) (hB : a.heap.size ≤ B) : Only [] a c := Only.ofBelow ((o.below).trans (h.mono hB))
set_option maxHeartbeats 8000000 in
theorem sparse_any (t : List UInt8) (ht : t.length ≤ 2000000) (w : World) (he : Env w) (hw4 : 4 ≤ w.heap.size) : Calls Tryz.prog 29 #[.string (bs t)] w fun e w' => ParA (w.heap.size + 1) w' e (parF t) ∧ Only [] w w' := by
  obtain ⟨X, hX⟩ : ∃ X, w.heap.size = X := ⟨_, rfl⟩
  have HE := hide he
  have hz : (bs t).size = t.length := bs_size t
  have O0 := hide (((Only.refl [] w).alloc (.cells z9 54)).alloc (.cells #[.int .i64 0, .int .i64 0, .int .i64 0, .int .i64 0, .int .i64 0, .int .i64 0, .slice none 0 0, .slice none 0 0, .slice none 0 0, .int .i64 0] 101))
  have B0 := (Blk.new w 54 z9).alloc (.cells #[.int .i64 0, .int .i64 0, .int .i64 0, .int .i64 0, .int .i64 0, .int .i64 0, .slice none 0 0, .slice none 0 0, .slice none 0 0, .int .i64 0] 101)
  have B1 := Blk.new (w.alloc (.cells z9 54)) 101 #[.int .i64 0, .int .i64 0, .int .i64 0, .int .i64 0, .int .i64 0, .int .i64 0, .slice none 0 0, .slice none 0 0, .slice none 0 0, .int .i64 0]
  rw [World.size_alloc] at B1
  unfold z9 at O0 B0 B1
  rw [hX] at B0 B1
  have HB0 := hide B0
  have HB1 := hide B1
  have CT2 : ∀ W, Only [] w W → _ := fun W (o : Only [] w W) => cut_any (bs t) 10 (by rw [bs_size]; omega) W (HE.out.only o)
  rw [bs_list] at CT2
  have hc2 : (cutAt 10 t).1.length ≤ t.length ∧ (cutAt 10 t).2.1.length ≤ t.length := by have := cut_len 10 t; omega
  have hPF := parF_eq t
  obtain ⟨l1, hl1⟩ : ∃ x, (cutAt 10 t).1 = x := ⟨_, rfl⟩
  obtain ⟨l2, hl2⟩ : ∃ x, (cutAt 10 t).2.1 = x := ⟨_, rfl⟩
  obtain ⟨l3, hl3⟩ : ∃ x, (cutAt 10 t).2.2 = x := ⟨_, rfl⟩
  rw [hl1, hl2, hl3] at CT2 hPF
  rw [hl1, hl2] at hc2
  have CT := hide (fun W (o : Only [] w W) => (show Calls Tryz.prog 32 #[.string (bs t), .string ⟨#[10]⟩] W fun e w' => e = .returned (.tuple #[.string (bs l1), .string (bs l2), .bool l3]) ∧ Only [] W w' from CT2 W o))
  have UH := fun W (o : Only [] w W) => unhead_any l1 (by omega) W (HE.out.only o) (by have := o.size; omega)
  unfold unhV job8 at UH
  obtain ⟨v, hv⟩ : ∃ v, numN l1 = v := ⟨_, rfl⟩
  obtain ⟨ok, hok⟩ : ∃ ok, hdOk l1 = ok := ⟨_, rfl⟩
  rw [hv, hok] at hPF
  simp only [hv, hok] at UH
  have UH := hide UH
  clear CT2 hl1 hl2 hl3 he B0 B1 hv hok
  by_cases hlen : 1048576 < t.length
  · rw [if_pos hlen] at hPF
    have HPF := hide hPF
    have d1 : decide ((1048576 : Int) < (t.length : Int)) = true := decide_eq_true (by omega)
    have d2 : decide (1048576 < t.length) = true := decide_eq_true (by omega)
    have d3 : (1048576 : Int) < (t.length : Int) := by omega
    clear hPF hlen
    go_enter Tryz.func29, Tryz.ntmps29
    go_wp2_with fail
    refine wp_scope_fwd 0 (by rfl) ?_
    intro KJ hKJ
    go_wp2_with (first
      | (go_at_call 32; (with_reducible refine (CT.out _ O0.out).mono ?_); rintro e w1 ⟨rfl, o1⟩; have O1 := hide (O0.out.trans0 o1); have o1h := hide o1; clear o1)
      | (go_at_call 52; (with_reducible refine (UH.out _ O1.out).mono ?_); rintro e w2 ⟨rfl, o2⟩; have O2 := hide ((O1.out.trans0 o2).alloc (.cells #[.int .i64 (v 0), .int .i64 (v 1), .int .i64 (v 2), .int .i64 (v 3), .int .i64 (v 4), .int .i64 (v 5), .slice none 0 0, .slice none 0 0] 52)); have OW2 := hide O2.out.size; have ow := (o1h.out.trans0 o2).alloc (.cells #[.int .i64 (v 0), .int .i64 (v 1), .int .i64 (v 2), .int .i64 (v 3), .int .i64 (v 4), .int .i64 (v 5), .slice none 0 0, .slice none 0 0] 52); have BX := HB0.out.only ow (by simp); have BR := HB1.out.only ow (by simp); have BJ := Blk.new w2 52 #[.int .i64 (v 0), .int .i64 (v 1), .int .i64 (v 2), .int .i64 (v 3), .int .i64 (v 4), .int .i64 (v 5), .slice none 0 0, .slice none 0 0]; have x0 := BX.cell 0; have x1 := BX.cell 1; have x2 := BX.cell 2; have x3 := BX.cell 3; have x4 := BX.cell 4; have x5 := BX.cell 5; have x6 := BX.cell 6; have x7 := BX.cell 7; have x8 := BX.cell 8; have z0 := BX.frozen 0; have z1 := BX.frozen 1; have z2 := BX.frozen 2; have z3 := BX.frozen 3; have z4 := BX.frozen 4; have z5 := BX.frozen 5; have z6 := BX.frozen 6; have z7 := BX.frozen 7; have z8 := BX.frozen 8; have BXH := hide BX; clear BX BR BJ; clear ow; clear o2))
    (try simp only [fwd])
    have BF := (((((((((BXH.out.set_ 0 (.int .i64 0)).set_ 1 (.int .i64 0)).set_ 2 (.int .i64 0)).set_ 3 (.int .i64 0)).set_ 4 (.int .i64 0)).set_ 5 (.int .i64 0)).set_ 6 (.slice none 0 0)).set_ 7 (.slice none 0 0)).set_ 8 (.slice none 0 0))
    refine bodyPost_ret (v := .tuple #[.agg #[.int .i64 0, .int .i64 0, .int .i64 0, .int .i64 0, .int .i64 0, .int .i64 0, .slice none 0 0, .slice none 0 0, .slice none 0 0], .int .i64 0, .int .i64 3]) (results_cell3 Tryz.results29 rfl rfl rfl (load54 (a := .int .i64 0) (b := .int .i64 0) (c := .int .i64 0) (d := .int .i64 0) (e := .int .i64 0) (f := .int .i64 0) (x := .slice none 0 0) (y := .slice none 0 0) (z := .slice none 0 0) (by simpa using BF))) rfl ⟨?_, ?_⟩
    · rw [HPF.out]; exact rfl
    · exact (((((((((O2.out.setCell (p := ⟨X, 0, none⟩) (.inr (by simp only; omega)) _).setCell (p := ⟨X, 1, none⟩) (.inr (by simp only; omega)) _).setCell (p := ⟨X, 2, none⟩) (.inr (by simp only; omega)) _).setCell (p := ⟨X, 3, none⟩) (.inr (by simp only; omega)) _).setCell (p := ⟨X, 4, none⟩) (.inr (by simp only; omega)) _).setCell (p := ⟨X, 5, none⟩) (.inr (by simp only; omega)) _).setCell (p := ⟨X, 6, none⟩) (.inr (by simp only; omega)) _).setCell (p := ⟨X, 7, none⟩) (.inr (by simp only; omega)) _).setCell (p := ⟨X, 8, none⟩) (.inr (by simp only; omega)) _)
  · rw [if_neg hlen] at hPF
    have d1 : decide ((1048576 : Int) < (t.length : Int)) = false := decide_eq_false (by omega)
    have d2 : decide (1048576 < t.length) = false := decide_eq_false (by omega)
    have d3 : ¬ (1048576 : Int) < (t.length : Int) := by omega
    have d4 : ¬ 1048576 < t.length := by omega
    cases ok with
    | false =>
      rw [if_neg (by simp)] at hPF
      have HPF := hide hPF
      clear hPF hlen
      go_enter Tryz.func29, Tryz.ntmps29
      go_wp2_with fail
      refine wp_scope_fwd 0 (by rfl) ?_
      intro KJ hKJ
      go_wp2_with (first
        | (go_at_call 32; (with_reducible refine (CT.out _ O0.out).mono ?_); rintro e w1 ⟨rfl, o1⟩; have O1 := hide (O0.out.trans0 o1); have o1h := hide o1; clear o1)
        | (go_at_call 52; (with_reducible refine (UH.out _ O1.out).mono ?_); rintro e w2 ⟨rfl, o2⟩; have O2 := hide ((O1.out.trans0 o2).alloc (.cells #[.int .i64 (v 0), .int .i64 (v 1), .int .i64 (v 2), .int .i64 (v 3), .int .i64 (v 4), .int .i64 (v 5), .slice none 0 0, .slice none 0 0] 52)); have OW2 := hide O2.out.size; have ow := (o1h.out.trans0 o2).alloc (.cells #[.int .i64 (v 0), .int .i64 (v 1), .int .i64 (v 2), .int .i64 (v 3), .int .i64 (v 4), .int .i64 (v 5), .slice none 0 0, .slice none 0 0] 52); have BX := HB0.out.only ow (by simp); have BR := HB1.out.only ow (by simp); have BJ := Blk.new w2 52 #[.int .i64 (v 0), .int .i64 (v 1), .int .i64 (v 2), .int .i64 (v 3), .int .i64 (v 4), .int .i64 (v 5), .slice none 0 0, .slice none 0 0]; have r0 := BR.cell 0; have r1 := BR.cell 1; have r2 := BR.cell 2; have r3 := BR.cell 3; have r4 := BR.cell 4; have r5 := BR.cell 5; have r6 := BR.cell 6; have r7 := BR.cell 7; have u0 := BR.frozen 0; have u1 := BR.frozen 1; have u2 := BR.frozen 2; have u3 := BR.frozen 3; have u4 := BR.frozen 4; have u5 := BR.frozen 5; have u6 := BR.frozen 6; have u7 := BR.frozen 7; have x0 := BX.cell 0; have x1 := BX.cell 1; have x2 := BX.cell 2; have x3 := BX.cell 3; have x4 := BX.cell 4; have x5 := BX.cell 5; have x6 := BX.cell 6; have x7 := BX.cell 7; have x8 := BX.cell 8; have z0 := BX.frozen 0; have z1 := BX.frozen 1; have z2 := BX.frozen 2; have z3 := BX.frozen 3; have z4 := BX.frozen 4; have z5 := BX.frozen 5; have z6 := BX.frozen 6; have z7 := BX.frozen 7; have z8 := BX.frozen 8; have j0 := BJ.cell 0; have j1 := BJ.cell 1; have j2 := BJ.cell 2; have j3 := BJ.cell 3; have j4 := BJ.cell 4; have j5 := BJ.cell 5; have j6 := BJ.cell 6; have j7 := BJ.cell 7; have BXH := hide BX; have BRH := hide BR; clear BX BR BJ; clear ow; clear o2))
      refine wp_goto (show (0 : Nat) = 0 ∧ KJ _ _ from ⟨rfl, hKJ _ _ ?_⟩)
      clear hKJ
      go_wp2_with fail
      (try simp only [Exit.noGoto])
      have BF := (((((((((((((((((BXH.out.far (p := ⟨X + 1, 0, none⟩) (by simp) (.int .i64 (v 0))).far (p := ⟨X + 1, 1, none⟩) (by simp) (.int .i64 (v 1))).far (p := ⟨X + 1, 2, none⟩) (by simp) (.int .i64 (v 2))).far (p := ⟨X + 1, 3, none⟩) (by simp) (.int .i64 (v 3))).far (p := ⟨X + 1, 4, none⟩) (by simp) (.int .i64 (v 4))).far (p := ⟨X + 1, 5, none⟩) (by simp) (.int .i64 (v 5))).far (p := ⟨X + 1, 6, none⟩) (by simp) (.slice none 0 0)).far (p := ⟨X + 1, 7, none⟩) (by simp) (.slice none 0 0)).set_ 0 (.int .i64 0)).set_ 1 (.int .i64 0)).set_ 2 (.int .i64 0)).set_ 3 (.int .i64 0)).set_ 4 (.int .i64 0)).set_ 5 (.int .i64 0)).set_ 6 (.slice none 0 0)).set_ 7 (.slice none 0 0)).set_ 8 (.slice none 0 0))
      refine bodyPost_ret (v := .tuple #[.agg #[.int .i64 0, .int .i64 0, .int .i64 0, .int .i64 0, .int .i64 0, .int .i64 0, .slice none 0 0, .slice none 0 0, .slice none 0 0], .int .i64 0, .int .i64 4]) (results_cell3 Tryz.results29 rfl rfl rfl (load54 (a := .int .i64 0) (b := .int .i64 0) (c := .int .i64 0) (d := .int .i64 0) (e := .int .i64 0) (f := .int .i64 0) (x := .slice none 0 0) (y := .slice none 0 0) (z := .slice none 0 0) (by simpa using BF))) rfl ⟨?_, ?_⟩
      · rw [HPF.out]; exact rfl
      · exact (((((((((((((((((O2.out.setCell (p := ⟨X + 1, 0, none⟩) (.inr (by simp only; omega)) _).setCell (p := ⟨X + 1, 1, none⟩) (.inr (by simp only; omega)) _).setCell (p := ⟨X + 1, 2, none⟩) (.inr (by simp only; omega)) _).setCell (p := ⟨X + 1, 3, none⟩) (.inr (by simp only; omega)) _).setCell (p := ⟨X + 1, 4, none⟩) (.inr (by simp only; omega)) _).setCell (p := ⟨X + 1, 5, none⟩) (.inr (by simp only; omega)) _).setCell (p := ⟨X + 1, 6, none⟩) (.inr (by simp only; omega)) _).setCell (p := ⟨X + 1, 7, none⟩) (.inr (by simp only; omega)) _).setCell (p := ⟨X, 0, none⟩) (.inr (by simp only; omega)) _).setCell (p := ⟨X, 1, none⟩) (.inr (by simp only; omega)) _).setCell (p := ⟨X, 2, none⟩) (.inr (by simp only; omega)) _).setCell (p := ⟨X, 3, none⟩) (.inr (by simp only; omega)) _).setCell (p := ⟨X, 4, none⟩) (.inr (by simp only; omega)) _).setCell (p := ⟨X, 5, none⟩) (.inr (by simp only; omega)) _).setCell (p := ⟨X, 6, none⟩) (.inr (by simp only; omega)) _).setCell (p := ⟨X, 7, none⟩) (.inr (by simp only; omega)) _).setCell (p := ⟨X, 8, none⟩) (.inr (by simp only; omega)) _)
    | true =>
      cases l3 with
      | false =>
        rw [if_neg (by simp)] at hPF
        have HPF := hide hPF
        clear hPF hlen
        go_enter Tryz.func29, Tryz.ntmps29
        go_wp2_with fail
        refine wp_scope_fwd 0 (by rfl) ?_
        intro KJ hKJ
        go_wp2_with (first
          | (go_at_call 32; (with_reducible refine (CT.out _ O0.out).mono ?_); rintro e w1 ⟨rfl, o1⟩; have O1 := hide (O0.out.trans0 o1); have o1h := hide o1; clear o1)
          | (go_at_call 52; (with_reducible refine (UH.out _ O1.out).mono ?_); rintro e w2 ⟨rfl, o2⟩; have O2 := hide ((O1.out.trans0 o2).alloc (.cells #[.int .i64 (v 0), .int .i64 (v 1), .int .i64 (v 2), .int .i64 (v 3), .int .i64 (v 4), .int .i64 (v 5), .slice none 0 0, .slice none 0 0] 52)); have OW2 := hide O2.out.size; have ow := (o1h.out.trans0 o2).alloc (.cells #[.int .i64 (v 0), .int .i64 (v 1), .int .i64 (v 2), .int .i64 (v 3), .int .i64 (v 4), .int .i64 (v 5), .slice none 0 0, .slice none 0 0] 52); have BX := HB0.out.only ow (by simp); have BR := HB1.out.only ow (by simp); have BJ := Blk.new w2 52 #[.int .i64 (v 0), .int .i64 (v 1), .int .i64 (v 2), .int .i64 (v 3), .int .i64 (v 4), .int .i64 (v 5), .slice none 0 0, .slice none 0 0]; have r0 := BR.cell 0; have r1 := BR.cell 1; have r2 := BR.cell 2; have r3 := BR.cell 3; have r4 := BR.cell 4; have r5 := BR.cell 5; have r6 := BR.cell 6; have r7 := BR.cell 7; have u0 := BR.frozen 0; have u1 := BR.frozen 1; have u2 := BR.frozen 2; have u3 := BR.frozen 3; have u4 := BR.frozen 4; have u5 := BR.frozen 5; have u6 := BR.frozen 6; have u7 := BR.frozen 7; have x0 := BX.cell 0; have x1 := BX.cell 1; have x2 := BX.cell 2; have x3 := BX.cell 3; have x4 := BX.cell 4; have x5 := BX.cell 5; have x6 := BX.cell 6; have x7 := BX.cell 7; have x8 := BX.cell 8; have z0 := BX.frozen 0; have z1 := BX.frozen 1; have z2 := BX.frozen 2; have z3 := BX.frozen 3; have z4 := BX.frozen 4; have z5 := BX.frozen 5; have z6 := BX.frozen 6; have z7 := BX.frozen 7; have z8 := BX.frozen 8; have j0 := BJ.cell 0; have j1 := BJ.cell 1; have j2 := BJ.cell 2; have j3 := BJ.cell 3; have j4 := BJ.cell 4; have j5 := BJ.cell 5; have j6 := BJ.cell 6; have j7 := BJ.cell 7; have BXH := hide BX; have BRH := hide BR; clear BX BR BJ; clear ow; clear o2))
        refine wp_goto (show (0 : Nat) = 0 ∧ KJ _ _ from ⟨rfl, hKJ _ _ ?_⟩)
        clear hKJ
        go_wp2_with fail
        (try simp only [Exit.noGoto])
        have BF := (((((((((((((((((BXH.out.far (p := ⟨X + 1, 0, none⟩) (by simp) (.int .i64 (v 0))).far (p := ⟨X + 1, 1, none⟩) (by simp) (.int .i64 (v 1))).far (p := ⟨X + 1, 2, none⟩) (by simp) (.int .i64 (v 2))).far (p := ⟨X + 1, 3, none⟩) (by simp) (.int .i64 (v 3))).far (p := ⟨X + 1, 4, none⟩) (by simp) (.int .i64 (v 4))).far (p := ⟨X + 1, 5, none⟩) (by simp) (.int .i64 (v 5))).far (p := ⟨X + 1, 6, none⟩) (by simp) (.slice none 0 0)).far (p := ⟨X + 1, 7, none⟩) (by simp) (.slice none 0 0)).set_ 0 (.int .i64 0)).set_ 1 (.int .i64 0)).set_ 2 (.int .i64 0)).set_ 3 (.int .i64 0)).set_ 4 (.int .i64 0)).set_ 5 (.int .i64 0)).set_ 6 (.slice none 0 0)).set_ 7 (.slice none 0 0)).set_ 8 (.slice none 0 0))
        refine bodyPost_ret (v := .tuple #[.agg #[.int .i64 0, .int .i64 0, .int .i64 0, .int .i64 0, .int .i64 0, .int .i64 0, .slice none 0 0, .slice none 0 0, .slice none 0 0], .int .i64 0, .int .i64 4]) (results_cell3 Tryz.results29 rfl rfl rfl (load54 (a := .int .i64 0) (b := .int .i64 0) (c := .int .i64 0) (d := .int .i64 0) (e := .int .i64 0) (f := .int .i64 0) (x := .slice none 0 0) (y := .slice none 0 0) (z := .slice none 0 0) (by simpa using BF))) rfl ⟨?_, ?_⟩
        · rw [HPF.out]; exact rfl
        · exact (((((((((((((((((O2.out.setCell (p := ⟨X + 1, 0, none⟩) (.inr (by simp only; omega)) _).setCell (p := ⟨X + 1, 1, none⟩) (.inr (by simp only; omega)) _).setCell (p := ⟨X + 1, 2, none⟩) (.inr (by simp only; omega)) _).setCell (p := ⟨X + 1, 3, none⟩) (.inr (by simp only; omega)) _).setCell (p := ⟨X + 1, 4, none⟩) (.inr (by simp only; omega)) _).setCell (p := ⟨X + 1, 5, none⟩) (.inr (by simp only; omega)) _).setCell (p := ⟨X + 1, 6, none⟩) (.inr (by simp only; omega)) _).setCell (p := ⟨X + 1, 7, none⟩) (.inr (by simp only; omega)) _).setCell (p := ⟨X, 0, none⟩) (.inr (by simp only; omega)) _).setCell (p := ⟨X, 1, none⟩) (.inr (by simp only; omega)) _).setCell (p := ⟨X, 2, none⟩) (.inr (by simp only; omega)) _).setCell (p := ⟨X, 3, none⟩) (.inr (by simp only; omega)) _).setCell (p := ⟨X, 4, none⟩) (.inr (by simp only; omega)) _).setCell (p := ⟨X, 5, none⟩) (.inr (by simp only; omega)) _).setCell (p := ⟨X, 6, none⟩) (.inr (by simp only; omega)) _).setCell (p := ⟨X, 7, none⟩) (.inr (by simp only; omega)) _).setCell (p := ⟨X, 8, none⟩) (.inr (by simp only; omega)) _)
      | true =>
        rw [if_pos ⟨rfl, rfl⟩] at hPF
        obtain ⟨RES, hRES⟩ : ∃ R, parL (t.length + 1) 1 0 ⟨[], [], [], 0⟩ l2 = R := ⟨_, rfl⟩
        rw [hRES] at hPF
        have HPF := hide hPF
        have HRES := hide hRES
        clear hPF hlen hRES
        go_enter Tryz.func29, Tryz.ntmps29
        go_wp2_with fail
        refine wp_scope_fwd 0 (by rfl) ?_
        intro KJ hKJ
        go_wp2_with (first
          | (go_at_call 32; (with_reducible refine (CT.out _ O0.out).mono ?_); rintro e w1 ⟨rfl, o1⟩; have O1 := hide (O0.out.trans0 o1); have o1h := hide o1; clear o1)
          | (go_at_call 52; (with_reducible refine (UH.out _ O1.out).mono ?_); rintro e w2 ⟨rfl, o2⟩; have O2 := hide ((O1.out.trans0 o2).alloc (.cells #[.int .i64 (v 0), .int .i64 (v 1), .int .i64 (v 2), .int .i64 (v 3), .int .i64 (v 4), .int .i64 (v 5), .slice none 0 0, .slice none 0 0] 52)); have OW2 := hide O2.out.size; have ow := (o1h.out.trans0 o2).alloc (.cells #[.int .i64 (v 0), .int .i64 (v 1), .int .i64 (v 2), .int .i64 (v 3), .int .i64 (v 4), .int .i64 (v 5), .slice none 0 0, .slice none 0 0] 52); have BX := HB0.out.only ow (by simp); have BR := HB1.out.only ow (by simp); have BJ := Blk.new w2 52 #[.int .i64 (v 0), .int .i64 (v 1), .int .i64 (v 2), .int .i64 (v 3), .int .i64 (v 4), .int .i64 (v 5), .slice none 0 0, .slice none 0 0]; have r0 := BR.cell 0; have r1 := BR.cell 1; have r2 := BR.cell 2; have r3 := BR.cell 3; have r4 := BR.cell 4; have r5 := BR.cell 5; have r6 := BR.cell 6; have r7 := BR.cell 7; have u0 := BR.frozen 0; have u1 := BR.frozen 1; have u2 := BR.frozen 2; have u3 := BR.frozen 3; have u4 := BR.frozen 4; have u5 := BR.frozen 5; have u6 := BR.frozen 6; have u7 := BR.frozen 7; have x0 := BX.cell 0; have x1 := BX.cell 1; have x2 := BX.cell 2; have x3 := BX.cell 3; have x4 := BX.cell 4; have x5 := BX.cell 5; have x6 := BX.cell 6; have x7 := BX.cell 7; have x8 := BX.cell 8; have z0 := BX.frozen 0; have z1 := BX.frozen 1; have z2 := BX.frozen 2; have z3 := BX.frozen 3; have z4 := BX.frozen 4; have z5 := BX.frozen 5; have z6 := BX.frozen 6; have z7 := BX.frozen 7; have z8 := BX.frozen 8; have j0 := BJ.cell 0; have j1 := BJ.cell 1; have j2 := BJ.cell 2; have j3 := BJ.cell 3; have j4 := BJ.cell 4; have j5 := BJ.cell 5; have j6 := BJ.cell 6; have j7 := BJ.cell 7; have BXH := hide BX; have BRH := hide BR; clear BX BR BJ; clear ow; clear o2))
        have HR0 := hide (show RdAt _ (X + 1) (X + 1) v ⟨[], [], [], 0⟩ from ⟨Nat.le_refl _, none, 0, [], none, 0, none, 0, (((((((((BRH.out.set_ 0 (.int .i64 (v 0))).set_ 1 (.int .i64 (v 1))).set_ 2 (.int .i64 (v 2))).set_ 3 (.int .i64 (v 3))).set_ 4 (.int .i64 (v 4))).set_ 5 (.int .i64 (v 5))).set_ 6 (.slice none 0 0)).set_ 7 (.slice none 0 0))), Ps.nil _ _, World.ownsRow_nil .., World.ownsRow_nil ..⟩)
        have HX0 := hide (((((((((BXH.out.far (p := ⟨X + 1, 0, none⟩) (by simp) (.int .i64 (v 0))).far (p := ⟨X + 1, 1, none⟩) (by simp) (.int .i64 (v 1))).far (p := ⟨X + 1, 2, none⟩) (by simp) (.int .i64 (v 2))).far (p := ⟨X + 1, 3, none⟩) (by simp) (.int .i64 (v 3))).far (p := ⟨X + 1, 4, none⟩) (by simp) (.int .i64 (v 4))).far (p := ⟨X + 1, 5, none⟩) (by simp) (.int .i64 (v 5))).far (p := ⟨X + 1, 6, none⟩) (by simp) (.slice none 0 0)).far (p := ⟨X + 1, 7, none⟩) (by simp) (.slice none 0 0)))
        have OL0 := hide (((((((((O2.out.setCell (p := ⟨X + 1, 0, none⟩) (.inr (by simp only; omega)) (.int .i64 (v 0))).setCell (p := ⟨X + 1, 1, none⟩) (.inr (by simp only; omega)) (.int .i64 (v 1))).setCell (p := ⟨X + 1, 2, none⟩) (.inr (by simp only; omega)) (.int .i64 (v 2))).setCell (p := ⟨X + 1, 3, none⟩) (.inr (by simp only; omega)) (.int .i64 (v 3))).setCell (p := ⟨X + 1, 4, none⟩) (.inr (by simp only; omega)) (.int .i64 (v 4))).setCell (p := ⟨X + 1, 5, none⟩) (.inr (by simp only; omega)) (.int .i64 (v 5))).setCell (p := ⟨X + 1, 6, none⟩) (.inr (by simp only; omega)) (.slice none 0 0)).setCell (p := ⟨X + 1, 7, none⟩) (.inr (by simp only; omega)) (.slice none 0 0)))
        clear r0 u0 j0 r1 u1 j1 r2 u2 j2 r3 u3 j3 r4 u4 j4 r5 u5 j5 r6 u6 j6 r7 u7 j7 x0 z0 x1 z1 x2 z2 x3 z3 x4 z4 x5 z5 x6 z6 x7 z7 x8 z8 BXH BRH HB0 HB1 O0 O1 O2 o1h OW2
        go_loopw [6, 7, 8, 9, 12] (fun v6 v7 v8 v9 v12 wr => ∃ (n f : Nat) (len : Int) (rd : Rd) (r : List UInt8), v6 = .int .i64 n ∧ v7 = .int .i64 len ∧ v9 = .string (bs r) ∧ r.length < f ∧ n + r.length ≤ t.length + 1 ∧ Hid (RdOk rd) ∧ Hid (parL f n len rd r = RES) ∧ Hid (RdAt wr (X + 1) (X + 1) v rd) ∧ Hid (Blk wr X 54 #[.int .i64 0, .int .i64 0, .int .i64 0, .int .i64 0, .int .i64 0, .int .i64 0, .slice none 0 0, .slice none 0 0, .slice none 0 0]) ∧ Hid (Only [] w wr)) (fun _ _ _ v9 _ _ => match v9 with | .string b => b.size | _ => 0)
        case atStart => exact ⟨1, t.length + 1, 0, ⟨[], [], [], 0⟩, l2, rfl, rfl, rfl, by omega, by omega, hide ⟨by simp, by simp, by simp, by simp, by simp⟩, HRES, HR0, HX0, OL0⟩
        case round =>
          clear HRES HR0 HX0 OL0
          obtain ⟨n, f, len, rd, r, rfl, rfl, rfl, hf, hn, hOK, hP, hR, hX0, hO⟩ := hrel
          have hsw := hO.out.size
          have hXw := hX0.out.lt
          by_cases hr0 : r = []
          · have hP2 := hP.out
            rw [hr0, parL_nil f n len rd (by omega)] at hP2
            obtain ⟨ps, ts, es, a⟩ := rd
            obtain ⟨hBR, A, c, vs, TA, tc, EA, ec, h1, h2, h3, h4⟩ := hR.out
            simp only at h1 h2 h3 h4 hP2
            have e0 : bs r = ⟨#[]⟩ := by rw [hr0]; rfl
            rw [e0]
            have k9 := h1.cell 9
            unfold rd10 at k9
            have H1 := hide h1
            have H2 := hide h2
            have H3 := hide h3
            have H4 := hide h4
            by_cases a0 : a = 0
            · have b0 : ((a : Int) == 0) = true := by simp; omega
              have HRS := hide hP2
              rw [if_pos a0] at HRS
              have BX := hX0.out
              have x0 := BX.cell 0; have x1 := BX.cell 1; have x2 := BX.cell 2; have x3 := BX.cell 3; have x4 := BX.cell 4; have x5 := BX.cell 5; have x6 := BX.cell 6; have x7 := BX.cell 7; have x8 := BX.cell 8; have z0 := BX.frozen 0; have z1 := BX.frozen 1; have z2 := BX.frozen 2; have z3 := BX.frozen 3; have z4 := BX.frozen 4; have z5 := BX.frozen 5; have z6 := BX.frozen 6; have z7 := BX.frozen 7; have z8 := BX.frozen 8
              clear hP2 a0 e0 hr0 h1 h2 h3 h4 BX
              go_wp2_with fail
              refine wp_goto (show (0 : Nat) = 0 ∧ KJ _ _ from ⟨rfl, hKJ _ _ ?_⟩)
              clear hKJ
              go_wp2_with fail
              (try simp only [Exit.noGoto])
              have BF := (((((((((hX0.out.set_ 0 (.int .i64 0)).set_ 1 (.int .i64 0)).set_ 2 (.int .i64 0)).set_ 3 (.int .i64 0)).set_ 4 (.int .i64 0)).set_ 5 (.int .i64 0)).set_ 6 (.slice none 0 0)).set_ 7 (.slice none 0 0)).set_ 8 (.slice none 0 0))
              refine bodyPost_ret (v := .tuple #[.agg #[.int .i64 0, .int .i64 0, .int .i64 0, .int .i64 0, .int .i64 0, .int .i64 0, .slice none 0 0, .slice none 0 0, .slice none 0 0], .int .i64 n, .int .i64 4]) (results_cell3 Tryz.results29 rfl rfl rfl (load54 (a := .int .i64 0) (b := .int .i64 0) (c := .int .i64 0) (d := .int .i64 0) (e := .int .i64 0) (f := .int .i64 0) (x := .slice none 0 0) (y := .slice none 0 0) (z := .slice none 0 0) (by simpa using BF))) rfl ⟨?_, ?_⟩
              · rw [HPF.out, ← HRS.out]; exact rfl
              · exact (((((((((hO.out.setCell (p := ⟨X, 0, none⟩) (.inr (by simp only; omega)) _).setCell (p := ⟨X, 1, none⟩) (.inr (by simp only; omega)) _).setCell (p := ⟨X, 2, none⟩) (.inr (by simp only; omega)) _).setCell (p := ⟨X, 3, none⟩) (.inr (by simp only; omega)) _).setCell (p := ⟨X, 4, none⟩) (.inr (by simp only; omega)) _).setCell (p := ⟨X, 5, none⟩) (.inr (by simp only; omega)) _).setCell (p := ⟨X, 6, none⟩) (.inr (by simp only; omega)) _).setCell (p := ⟨X, 7, none⟩) (.inr (by simp only; omega)) _).setCell (p := ⟨X, 8, none⟩) (.inr (by simp only; omega)) _)
            · have b0 : ((a : Int) == 0) = false := by simp; omega
              have HRS := hide hP2
              rw [if_neg a0] at HRS
              have BX := hX0.out
              have BR := h1
              unfold rd10 at BR
              have x0 := BX.cell 0; have x1 := BX.cell 1; have x2 := BX.cell 2; have x3 := BX.cell 3; have x4 := BX.cell 4; have x5 := BX.cell 5; have x6 := BX.cell 6; have x7 := BX.cell 7; have x8 := BX.cell 8; have z0 := BX.frozen 0; have z1 := BX.frozen 1; have z2 := BX.frozen 2; have z3 := BX.frozen 3; have z4 := BX.frozen 4; have z5 := BX.frozen 5; have z6 := BX.frozen 6; have z7 := BX.frozen 7; have z8 := BX.frozen 8
              have r0 := BR.cell 0; have r1 := BR.cell 1; have r2 := BR.cell 2; have r3 := BR.cell 3; have r4 := BR.cell 4; have r5 := BR.cell 5; have r6 := BR.cell 6; have r7 := BR.cell 7; have r8 := BR.cell 8
              clear hP2 a0 e0 hr0 h1 h2 h3 h4 BX BR
              go_wp2_with fail
              (try simp only [fwd])
              have BF := (((((((((hX0.out.set_ 0 (.int .i64 (v 0))).set_ 1 (.int .i64 (v 1))).set_ 2 (.int .i64 (v 2))).set_ 3 (.int .i64 (v 3))).set_ 4 (.int .i64 (v 4))).set_ 5 (.int .i64 (v 5))).set_ 6 (.slice A ps.length c)).set_ 7 (.slice TA ts.length tc)).set_ 8 (.slice EA es.length ec))
              refine bodyPost_ret (v := .tuple #[.agg #[.int .i64 (v 0), .int .i64 (v 1), .int .i64 (v 2), .int .i64 (v 3), .int .i64 (v 4), .int .i64 (v 5), .slice A ps.length c, .slice TA ts.length tc, .slice EA es.length ec], .int .i64 0, .int .i64 0]) (results_cell3 Tryz.results29 rfl rfl rfl (load54 (a := .int .i64 (v 0)) (b := .int .i64 (v 1)) (c := .int .i64 (v 2)) (d := .int .i64 (v 3)) (e := .int .i64 (v 4)) (f := .int .i64 (v 5)) (x := .slice A ps.length c) (y := .slice TA ts.length tc) (z := .slice EA es.length ec) (by simpa using BF))) rfl ⟨?_, ?_⟩
              · rw [HPF.out, ← HRS.out, hX]
                have OU := ((((((((((Only.refl [X] wr).setCell (p := ⟨X, 0, none⟩) (.inl (by simp)) (.int .i64 (v 0))).setCell (p := ⟨X, 1, none⟩) (.inl (by simp)) (.int .i64 (v 1))).setCell (p := ⟨X, 2, none⟩) (.inl (by simp)) (.int .i64 (v 2))).setCell (p := ⟨X, 3, none⟩) (.inl (by simp)) (.int .i64 (v 3))).setCell (p := ⟨X, 4, none⟩) (.inl (by simp)) (.int .i64 (v 4))).setCell (p := ⟨X, 5, none⟩) (.inl (by simp)) (.int .i64 (v 5))).setCell (p := ⟨X, 6, none⟩) (.inl (by simp)) (.slice A ps.length c)).setCell (p := ⟨X, 7, none⟩) (.inl (by simp)) (.slice TA ts.length tc)).setCell (p := ⟨X, 8, none⟩) (.inl (by simp)) (.slice EA es.length ec))
                exact ⟨A, c, vs, TA, tc, EA, ec, rfl, H2.out.far OU (fun k hk => ⟨54, _, by simp at hk; subst hk; exact hX0.out, by decide, by decide⟩), own_only' H3.out OU (fun k hk hm => by simp at hm; subst hm; exact own_ne H3.out hX0.out (by decide) hk), own_only' H4.out OU (fun k hk hm => by simp at hm; subst hm; exact own_ne H4.out hX0.out (by decide) hk)⟩
              · exact (((((((((hO.out.setCell (p := ⟨X, 0, none⟩) (.inr (by simp only; omega)) _).setCell (p := ⟨X, 1, none⟩) (.inr (by simp only; omega)) _).setCell (p := ⟨X, 2, none⟩) (.inr (by simp only; omega)) _).setCell (p := ⟨X, 3, none⟩) (.inr (by simp only; omega)) _).setCell (p := ⟨X, 4, none⟩) (.inr (by simp only; omega)) _).setCell (p := ⟨X, 5, none⟩) (.inr (by simp only; omega)) _).setCell (p := ⟨X, 6, none⟩) (.inr (by simp only; omega)) _).setCell (p := ⟨X, 7, none⟩) (.inr (by simp only; omega)) _).setCell (p := ⟨X, 8, none⟩) (.inr (by simp only; omega)) _)
          · have htr : (bs r).toList = r := by rw [ByteArray.toList_eq, bs_list]
            have hne : ¬ (bs r).toList = [] := by rw [htr]; exact hr0
            have hne3 : (bs r).toList.isEmpty = false := by rw [htr]; simpa using hr0
            have hne4 : ((bs r).toList == []) = false := by rw [htr]; simpa using hr0
            have hne5 : ((bs r).toList != []) = true := by rw [htr]; simpa using hr0
            have hzr : (bs r).size = r.length := bs_size r
            obtain ⟨f, rfl⟩ : ∃ g, f = g + 1 := ⟨f - 1, by omega⟩
            have hP2 := hP.out
            rw [parL_step hr0] at hP2
            have CT := cut_any (bs r) 10 (by omega) wr (HE.out.only hO.out)
            rw [bs_list] at CT
            have hcl := cut_len 10 r
            obtain ⟨l1, hl1⟩ : ∃ x, (cutAt 10 r).1 = x := ⟨_, rfl⟩
            obtain ⟨l2, hl2⟩ : ∃ x, (cutAt 10 r).2.1 = x := ⟨_, rfl⟩
            obtain ⟨l3, hl3⟩ : ∃ x, (cutAt 10 r).2.2 = x := ⟨_, rfl⟩
            rw [hl1, hl2, hl3] at CT hcl hP2
            have CT := hide (show Calls Tryz.prog 32 #[.string (bs r), .string ⟨#[10]⟩] wr fun e w' => e = .returned (.tuple #[.string (bs l1), .string (bs l2), .bool l3]) ∧ Only [] wr w' from CT)
            have CO := hide (fun W (o : Only [] wr W) => count_any l2 (by omega) W (HE.out.only (hO.out.trans0 o)) (by have := o.size; omega))
            have ep0 := bs_eq l1 progW
            have ep1 : ((bs l1).toList == progW) = (l1 == progW) := by rw [ByteArray.toList_eq, bs_list]
            clear hl1 hl2 hl3 hr0 htr
            by_cases sp : l1 = progW
            · have ep : ((bs l1).toList == (ByteArray.mk #[112, 114, 111, 103, 114, 97, 109]).toList) = true := ep0.trans (by simpa using sp)
              have ep2 : ((bs l1).toList == [112, 114, 111, 103, 114, 97, 109]) = true := ep1.trans (by simpa using sp)
              clear ep0 ep1
              have hlr : lenR l1 l2 len = (cnt l2 : Nat) := if_pos sp
              rw [hlr] at hP2
              have LN := hide (fun W (o : Only [] wr W) => rdline_any (X + 1) (X + 1) v rd l1 ((cnt l2 : Nat) : Int) (by omega) hOK.out W (HE.out.only (hO.out.trans0 o)) (by have := o.size; omega) (hR.out.only0 o) (by have := o.size; omega))
              clear hlr sp
              cases l3 with
              | false =>
                have HRS := hide (show (n, none) = RES from hP2)
                clear hP2
                go_wp2_with (first
                  | (go_at_call 32; (with_reducible refine CT.out.mono ?_); rintro e w1 ⟨rfl, o1⟩; have P1 := hide o1; have O1 := hide (hO.out.trans0 o1); clear o1)
                  | (go_at_call 53; (with_reducible refine (CO.out _ P1.out).mono ?_); rintro e w2 ⟨rfl, o2⟩; have P2 := hide (P1.out.trans0 o2); have O2 := hide (O1.out.trans0 o2); have BX := hX0.out.only P2.out (by simp); have x0 := BX.cell 0; have x1 := BX.cell 1; have x2 := BX.cell 2; have x3 := BX.cell 3; have x4 := BX.cell 4; have x5 := BX.cell 5; have x6 := BX.cell 6; have x7 := BX.cell 7; have x8 := BX.cell 8; have z0 := BX.frozen 0; have z1 := BX.frozen 1; have z2 := BX.frozen 2; have z3 := BX.frozen 3; have z4 := BX.frozen 4; have z5 := BX.frozen 5; have z6 := BX.frozen 6; have z7 := BX.frozen 7; have z8 := BX.frozen 8; have BXH := hide BX; clear BX; clear o2))
                refine wp_goto (show (0 : Nat) = 0 ∧ KJ _ _ from ⟨rfl, hKJ _ _ ?_⟩)
                clear hKJ
                go_wp2_with fail
                (try simp only [Exit.noGoto])
                have BF := (((((((((BXH.out.set_ 0 (.int .i64 0)).set_ 1 (.int .i64 0)).set_ 2 (.int .i64 0)).set_ 3 (.int .i64 0)).set_ 4 (.int .i64 0)).set_ 5 (.int .i64 0)).set_ 6 (.slice none 0 0)).set_ 7 (.slice none 0 0)).set_ 8 (.slice none 0 0))
                refine bodyPost_ret (v := .tuple #[.agg #[.int .i64 0, .int .i64 0, .int .i64 0, .int .i64 0, .int .i64 0, .int .i64 0, .slice none 0 0, .slice none 0 0, .slice none 0 0], .int .i64 n, .int .i64 4]) (results_cell3 Tryz.results29 rfl rfl rfl (load54 (a := .int .i64 0) (b := .int .i64 0) (c := .int .i64 0) (d := .int .i64 0) (e := .int .i64 0) (f := .int .i64 0) (x := .slice none 0 0) (y := .slice none 0 0) (z := .slice none 0 0) (by simpa using BF))) rfl ⟨?_, ?_⟩
                · rw [HPF.out, ← HRS.out]; exact rfl
                · exact (((((((((O2.out.setCell (p := ⟨X, 0, none⟩) (.inr (by simp only; omega)) _).setCell (p := ⟨X, 1, none⟩) (.inr (by simp only; omega)) _).setCell (p := ⟨X, 2, none⟩) (.inr (by simp only; omega)) _).setCell (p := ⟨X, 3, none⟩) (.inr (by simp only; omega)) _).setCell (p := ⟨X, 4, none⟩) (.inr (by simp only; omega)) _).setCell (p := ⟨X, 5, none⟩) (.inr (by simp only; omega)) _).setCell (p := ⟨X, 6, none⟩) (.inr (by simp only; omega)) _).setCell (p := ⟨X, 7, none⟩) (.inr (by simp only; omega)) _).setCell (p := ⟨X, 8, none⟩) (.inr (by simp only; omega)) _)
              | true =>
                rw [if_pos rfl] at hP2
                simp only [if_true] at hcl
                cases hli : lineR rd l1 ((cnt l2 : Nat) : Int) with
                | none =>
                  rw [hli] at hP2
                  simp only [hli] at LN
                  have HRS := hide (show (n, none) = RES from hP2)
                  clear hP2 hli
                  go_wp2_with (first
                    | (go_at_call 32; (with_reducible refine CT.out.mono ?_); rintro e w1 ⟨rfl, o1⟩; have P1 := hide o1; have O1 := hide (hO.out.trans0 o1); clear o1)
                    | (go_at_call 53; (with_reducible refine (CO.out _ P1.out).mono ?_); rintro e w2 ⟨rfl, o2⟩; have P2 := hide (P1.out.trans0 o2); have O2 := hide (O1.out.trans0 o2); clear o2)
                    | (go_at_call 54; (with_reducible refine (LN.out _ P2.out).mono ?_); rintro e w3 ⟨h1, h2⟩; have h1 := (show e = .returned (.bool false) from h1); subst h1; have O3 := hide (only_below O2.out h2 (by omega)); have BX := (hX0.out.only P2.out (by simp)).below h2 (by omega); have x0 := BX.cell 0; have x1 := BX.cell 1; have x2 := BX.cell 2; have x3 := BX.cell 3; have x4 := BX.cell 4; have x5 := BX.cell 5; have x6 := BX.cell 6; have x7 := BX.cell 7; have x8 := BX.cell 8; have z0 := BX.frozen 0; have z1 := BX.frozen 1; have z2 := BX.frozen 2; have z3 := BX.frozen 3; have z4 := BX.frozen 4; have z5 := BX.frozen 5; have z6 := BX.frozen 6; have z7 := BX.frozen 7; have z8 := BX.frozen 8; have BXH := hide BX; clear BX h2))
                  refine wp_goto (show (0 : Nat) = 0 ∧ KJ _ _ from ⟨rfl, hKJ _ _ ?_⟩)
                  clear hKJ
                  go_wp2_with fail
                  (try simp only [Exit.noGoto])
                  have BF := (((((((((BXH.out.set_ 0 (.int .i64 0)).set_ 1 (.int .i64 0)).set_ 2 (.int .i64 0)).set_ 3 (.int .i64 0)).set_ 4 (.int .i64 0)).set_ 5 (.int .i64 0)).set_ 6 (.slice none 0 0)).set_ 7 (.slice none 0 0)).set_ 8 (.slice none 0 0))
                  refine bodyPost_ret (v := .tuple #[.agg #[.int .i64 0, .int .i64 0, .int .i64 0, .int .i64 0, .int .i64 0, .int .i64 0, .slice none 0 0, .slice none 0 0, .slice none 0 0], .int .i64 n, .int .i64 4]) (results_cell3 Tryz.results29 rfl rfl rfl (load54 (a := .int .i64 0) (b := .int .i64 0) (c := .int .i64 0) (d := .int .i64 0) (e := .int .i64 0) (f := .int .i64 0) (x := .slice none 0 0) (y := .slice none 0 0) (z := .slice none 0 0) (by simpa using BF))) rfl ⟨?_, ?_⟩
                  · rw [HPF.out, ← HRS.out]; exact rfl
                  · exact (((((((((O3.out.setCell (p := ⟨X, 0, none⟩) (.inr (by simp only; omega)) _).setCell (p := ⟨X, 1, none⟩) (.inr (by simp only; omega)) _).setCell (p := ⟨X, 2, none⟩) (.inr (by simp only; omega)) _).setCell (p := ⟨X, 3, none⟩) (.inr (by simp only; omega)) _).setCell (p := ⟨X, 4, none⟩) (.inr (by simp only; omega)) _).setCell (p := ⟨X, 5, none⟩) (.inr (by simp only; omega)) _).setCell (p := ⟨X, 6, none⟩) (.inr (by simp only; omega)) _).setCell (p := ⟨X, 7, none⟩) (.inr (by simp only; omega)) _).setCell (p := ⟨X, 8, none⟩) (.inr (by simp only; omega)) _)
                | some r' =>
                  rw [hli] at hP2
                  simp only [hli] at LN
                  have HRS := hide (show parL f (n + 1) ((cnt l2 : Nat) : Int) r' l2 = RES from hP2)
                  have HOK' := hide (hOK.out.step hli)
                  clear hP2 hli
                  go_wp2_with (first
                    | (go_at_call 32; (with_reducible refine CT.out.mono ?_); rintro e w1 ⟨rfl, o1⟩; have P1 := hide o1; have O1 := hide (hO.out.trans0 o1); clear o1)
                    | (go_at_call 53; (with_reducible refine (CO.out _ P1.out).mono ?_); rintro e w2 ⟨rfl, o2⟩; have P2 := hide (P1.out.trans0 o2); have O2 := hide (O1.out.trans0 o2); clear o2)
                    | (go_at_call 54; (with_reducible refine (LN.out _ P2.out).mono ?_); rintro e w3 ⟨h1, h2⟩; have h1 := (show e = .returned (.bool true) ∧ RdAt w3 (X + 1) (X + 1) v r' from h1); obtain ⟨rfl, h3⟩ := h1; have O3 := hide (only_below O2.out h2 (by omega)); have BXH := hide ((hX0.out.only P2.out (by simp)).below h2 (by omega)); have HR3 := hide h3; clear h2 h3))
                  go_roundw
                  case rel => exact ⟨n + 1, f, ((cnt l2 : Nat) : Int), r', l2, by go_num, rfl, rfl, by omega, by omega, HOK', HRS, HR3, BXH, O3⟩
                  case measure => simp [bs_size]; omega
            · have ep : ((bs l1).toList == (ByteArray.mk #[112, 114, 111, 103, 114, 97, 109]).toList) = false := ep0.trans (by simpa using sp)
              have ep2 : ((bs l1).toList == [112, 114, 111, 103, 114, 97, 109]) = false := ep1.trans (by simpa using sp)
              clear ep0 ep1
              have hlr : lenR l1 l2 len = len := if_neg sp
              rw [hlr] at hP2
              have LN := hide (fun W (o : Only [] wr W) => rdline_any (X + 1) (X + 1) v rd l1 (len : Int) (by omega) hOK.out W (HE.out.only (hO.out.trans0 o)) (by have := o.size; omega) (hR.out.only0 o) (by have := o.size; omega))
              clear hlr sp
              cases l3 with
              | false =>
                have HRS := hide (show (n, none) = RES from hP2)
                clear hP2
                go_wp2_with (first
                  | (go_at_call 32; (with_reducible refine CT.out.mono ?_); rintro e w1 ⟨rfl, o1⟩; have P1 := hide o1; have O1 := hide (hO.out.trans0 o1); have BX := hX0.out.only P1.out (by simp); have x0 := BX.cell 0; have x1 := BX.cell 1; have x2 := BX.cell 2; have x3 := BX.cell 3; have x4 := BX.cell 4; have x5 := BX.cell 5; have x6 := BX.cell 6; have x7 := BX.cell 7; have x8 := BX.cell 8; have z0 := BX.frozen 0; have z1 := BX.frozen 1; have z2 := BX.frozen 2; have z3 := BX.frozen 3; have z4 := BX.frozen 4; have z5 := BX.frozen 5; have z6 := BX.frozen 6; have z7 := BX.frozen 7; have z8 := BX.frozen 8; have BXH := hide BX; clear BX; clear o1))
                refine wp_goto (show (0 : Nat) = 0 ∧ KJ _ _ from ⟨rfl, hKJ _ _ ?_⟩)
                clear hKJ
                go_wp2_with fail
                (try simp only [Exit.noGoto])
                have BF := (((((((((BXH.out.set_ 0 (.int .i64 0)).set_ 1 (.int .i64 0)).set_ 2 (.int .i64 0)).set_ 3 (.int .i64 0)).set_ 4 (.int .i64 0)).set_ 5 (.int .i64 0)).set_ 6 (.slice none 0 0)).set_ 7 (.slice none 0 0)).set_ 8 (.slice none 0 0))
                refine bodyPost_ret (v := .tuple #[.agg #[.int .i64 0, .int .i64 0, .int .i64 0, .int .i64 0, .int .i64 0, .int .i64 0, .slice none 0 0, .slice none 0 0, .slice none 0 0], .int .i64 n, .int .i64 4]) (results_cell3 Tryz.results29 rfl rfl rfl (load54 (a := .int .i64 0) (b := .int .i64 0) (c := .int .i64 0) (d := .int .i64 0) (e := .int .i64 0) (f := .int .i64 0) (x := .slice none 0 0) (y := .slice none 0 0) (z := .slice none 0 0) (by simpa using BF))) rfl ⟨?_, ?_⟩
                · rw [HPF.out, ← HRS.out]; exact rfl
                · exact (((((((((O1.out.setCell (p := ⟨X, 0, none⟩) (.inr (by simp only; omega)) _).setCell (p := ⟨X, 1, none⟩) (.inr (by simp only; omega)) _).setCell (p := ⟨X, 2, none⟩) (.inr (by simp only; omega)) _).setCell (p := ⟨X, 3, none⟩) (.inr (by simp only; omega)) _).setCell (p := ⟨X, 4, none⟩) (.inr (by simp only; omega)) _).setCell (p := ⟨X, 5, none⟩) (.inr (by simp only; omega)) _).setCell (p := ⟨X, 6, none⟩) (.inr (by simp only; omega)) _).setCell (p := ⟨X, 7, none⟩) (.inr (by simp only; omega)) _).setCell (p := ⟨X, 8, none⟩) (.inr (by simp only; omega)) _)
              | true =>
                rw [if_pos rfl] at hP2
                simp only [if_true] at hcl
                cases hli : lineR rd l1 (len : Int) with
                | none =>
                  rw [hli] at hP2
                  simp only [hli] at LN
                  have HRS := hide (show (n, none) = RES from hP2)
                  clear hP2 hli
                  go_wp2_with (first
                    | (go_at_call 32; (with_reducible refine CT.out.mono ?_); rintro e w1 ⟨rfl, o1⟩; have P1 := hide o1; have O1 := hide (hO.out.trans0 o1); clear o1)
                    | (go_at_call 54; (with_reducible refine (LN.out _ P1.out).mono ?_); rintro e w3 ⟨h1, h2⟩; have h1 := (show e = .returned (.bool false) from h1); subst h1; have O3 := hide (only_below O1.out h2 (by omega)); have BX := (hX0.out.only P1.out (by simp)).below h2 (by omega); have x0 := BX.cell 0; have x1 := BX.cell 1; have x2 := BX.cell 2; have x3 := BX.cell 3; have x4 := BX.cell 4; have x5 := BX.cell 5; have x6 := BX.cell 6; have x7 := BX.cell 7; have x8 := BX.cell 8; have z0 := BX.frozen 0; have z1 := BX.frozen 1; have z2 := BX.frozen 2; have z3 := BX.frozen 3; have z4 := BX.frozen 4; have z5 := BX.frozen 5; have z6 := BX.frozen 6; have z7 := BX.frozen 7; have z8 := BX.frozen 8; have BXH := hide BX; clear BX h2))
                  refine wp_goto (show (0 : Nat) = 0 ∧ KJ _ _ from ⟨rfl, hKJ _ _ ?_⟩)
                  clear hKJ
                  go_wp2_with fail
                  (try simp only [Exit.noGoto])
                  have BF := (((((((((BXH.out.set_ 0 (.int .i64 0)).set_ 1 (.int .i64 0)).set_ 2 (.int .i64 0)).set_ 3 (.int .i64 0)).set_ 4 (.int .i64 0)).set_ 5 (.int .i64 0)).set_ 6 (.slice none 0 0)).set_ 7 (.slice none 0 0)).set_ 8 (.slice none 0 0))
                  refine bodyPost_ret (v := .tuple #[.agg #[.int .i64 0, .int .i64 0, .int .i64 0, .int .i64 0, .int .i64 0, .int .i64 0, .slice none 0 0, .slice none 0 0, .slice none 0 0], .int .i64 n, .int .i64 4]) (results_cell3 Tryz.results29 rfl rfl rfl (load54 (a := .int .i64 0) (b := .int .i64 0) (c := .int .i64 0) (d := .int .i64 0) (e := .int .i64 0) (f := .int .i64 0) (x := .slice none 0 0) (y := .slice none 0 0) (z := .slice none 0 0) (by simpa using BF))) rfl ⟨?_, ?_⟩
                  · rw [HPF.out, ← HRS.out]; exact rfl
                  · exact (((((((((O3.out.setCell (p := ⟨X, 0, none⟩) (.inr (by simp only; omega)) _).setCell (p := ⟨X, 1, none⟩) (.inr (by simp only; omega)) _).setCell (p := ⟨X, 2, none⟩) (.inr (by simp only; omega)) _).setCell (p := ⟨X, 3, none⟩) (.inr (by simp only; omega)) _).setCell (p := ⟨X, 4, none⟩) (.inr (by simp only; omega)) _).setCell (p := ⟨X, 5, none⟩) (.inr (by simp only; omega)) _).setCell (p := ⟨X, 6, none⟩) (.inr (by simp only; omega)) _).setCell (p := ⟨X, 7, none⟩) (.inr (by simp only; omega)) _).setCell (p := ⟨X, 8, none⟩) (.inr (by simp only; omega)) _)
                | some r' =>
                  rw [hli] at hP2
                  simp only [hli] at LN
                  have HRS := hide (show parL f (n + 1) (len : Int) r' l2 = RES from hP2)
                  have HOK' := hide (hOK.out.step hli)
                  clear hP2 hli
                  go_wp2_with (first
                    | (go_at_call 32; (with_reducible refine CT.out.mono ?_); rintro e w1 ⟨rfl, o1⟩; have P1 := hide o1; have O1 := hide (hO.out.trans0 o1); clear o1)
                    | (go_at_call 54; (with_reducible refine (LN.out _ P1.out).mono ?_); rintro e w3 ⟨h1, h2⟩; have h1 := (show e = .returned (.bool true) ∧ RdAt w3 (X + 1) (X + 1) v r' from h1); obtain ⟨rfl, h3⟩ := h1; have O3 := hide (only_below O1.out h2 (by omega)); have BXH := hide ((hX0.out.only P1.out (by simp)).below h2 (by omega)); have HR3 := hide h3; clear h2 h3))
                  go_roundw
                  case rel => exact ⟨n + 1, f, (len : Int), r', l2, by go_num, rfl, rfl, by omega, by omega, HOK', HRS, HR3, BXH, O3⟩
                  case measure => simp [bs_size]; omega
end Go.Proofs.YteblhklclcjonaaGreatDoor
