/- Code: the walk of CodeSteps. Condition: Env. -/
import Derived.Test.YtmaljajdmgkakaaDoorCdF
import Derived.Test.YtmaljajdmgkakaaDoorCdI
import Derived.ChangeKeysEq
namespace Go.Proofs.YtmaljajdmgkakaaDoor
open Go.RowKit
set_option linter.unusedVariables false
set_option linter.all false
set_option maxRecDepth 20000

theorem eq_items {P : Program} (d e c : Nat) (xs ys : Array Value) (n : Nat) (f : Nat → Bool) (W : World) (h : ∀ j, j < n → ∃ a b, (part e xs (j * c)).run P W = .ok a W ∧ (part e ys (j * c)).run P W = .ok b W ∧ (Op.equalIn d e a b).run P W = .ok (f j) W) :
    ∀ is : List Nat, (∀ j ∈ is, j < n) → (Op.eqItems d e c xs ys is).run P W = .ok (is.all f) W
  | [], _ => by simp [Op.eqItems]
  | j :: is, hi => by
    obtain ⟨a, b, h1, h2, h3⟩ := h j (hi j (by simp))
    have ih := eq_items d e c xs ys n f W h is (fun j hj => hi j (by simp [hj]))
    simp only [Op.eqItems, Sem.run_bind, h1, h2, h3, Result.andThen_ok, List.all_cons]
    cases hf : f j
    · simp
    · simpa [hf] using ih
def r8 (R : Nat → Int) : Array Value := #[.int .i64 (R 0), .int .i64 (R 1), .int .i64 (R 2), .int .i64 (R 3), .int .i64 (R 4), .int .i64 (R 5), .int .i64 (R 6), .int .i64 (R 7)]
theorem r8_get (R : Nat → Int) : ∀ i, i < 8 → (r8 R)[i]? = some (.int .i64 (R i)) := by
  intro i hi
  rcases (by omega : i = 0 ∨ i = 1 ∨ i = 2 ∨ i = 3 ∨ i = 4 ∨ i = 5 ∨ i = 6 ∨ i = 7) with h | h | h | h | h | h | h | h
  all_goals (subst h; rfl)
theorem eq37 (R : Nat → Int) (W : World) : (Op.equalIn 9999 37 (.agg (r8 R)) (.agg (r8 R))).run Tryd.prog W = .ok true W := by
  obtain ⟨inf, hi⟩ := info_of_underlying (P := Tryd.prog) Tryd.underlying2
  have hc : Tryd.prog.cellsOf 2 = 1 := by kernel_rfl
  have P3 : Tryd.prog.plainKey 2 = true := by kernel_rfl
  rw [run_equalIn_array W 9998 (r8 R) (r8 R) Tryd.underlying37 hi, hc]
  have := eq_items (P := Tryd.prog) 9998 2 1 (r8 R) (r8 R) 8 (fun j => R j == R j) W (fun j hj => by
    rw [Nat.mul_one]
    exact ⟨_, _, run_part_plain W P3 (r8_get R j hj), run_part_plain W P3 (r8_get R j hj), run_equalIn_int W 9997 2 .i64 .i64 _ _ Tryd.underlying2⟩) (List.range 8) (fun j hj => List.mem_range.1 hj)
  rw [this]
  simp
theorem steps_walk (i : Ins) (p : Int) (R : Nat → Int) (w : World) (he : Env w) (hw4 : 4 ≤ w.heap.size) (hb0 : -9223372036854775808 ≤ i.op) (hb1 : i.op ≤ 9223372036854775807) :
    Calls Tryd.prog 4 #[.agg (insV i), .agg (stV p R)] w fun e w' => e = .returned (.bool true) ∧ Only [] w w' := by
  obtain ⟨P2, R2, okb, hv⟩ : ∃ P2 R2 okb, stepV i p R = .tuple #[.agg (stV P2 R2), .bool okb] := by
    unfold stepV
    split
    · exact ⟨_, _, _, rfl⟩
    · exact ⟨_, _, _, rfl⟩
  have A1 := fun W => step_any i p R W hb0 hb1
  have A2 := fun W => rstep_any i p R W
  have KN := hide (fun W (o : Only [] w W) => known_any W (he.only o) (by have := o.size; omega))
  simp only [hv] at A1 A2
  have q := eq37 R2
  unfold r8 at q
  have b1 := (Blk.new w 24 (insV i)).alloc (.cells (stV p R) 39)
  have b2 := Blk.new (w.alloc (.cells (insV i) 24)) 39 (stV p R)
  rw [World.size_alloc] at b2
  have o1 := ((Only.refl [] w).alloc (.cells (insV i) 24)).alloc (.cells (stV p R) 39)
  unfold insV stV at A1 A2
  unfold insV stV at b1 b2 o1
  unfold insV stV
  have A1 := hide A1
  have A2 := hide A2
  have B1 := hide b1
  have B2 := hide b2
  have O1 := hide o1
  have x0 := b1.cell 0
  have x1 := b1.cell 1
  have x2 := b1.cell 2
  have x3 := b1.cell 3
  have x4 := b1.cell 4
  have z0 := b2.cell 0
  have z1 := b2.cell 1
  have z2 := b2.cell 2
  have z3 := b2.cell 3
  have z4 := b2.cell 4
  have z5 := b2.cell 5
  have z6 := b2.cell 6
  have z7 := b2.cell 7
  have z8 := b2.cell 8
  clear he hw4 hv b1 b2 o1
  go_enter Tryd.func4, Tryd.ntmps4
  go_wp2_with (first
    | (go_at_call 14; (with_reducible refine (A1.out _).mono ?_); rintro e w1 ⟨rfl, o⟩; have O2 := hide ((O1.out.trans0 o).alloc (.cells #[.int .i64 P2, .int .i64 (R2 0), .int .i64 (R2 1), .int .i64 (R2 2), .int .i64 (R2 3), .int .i64 (R2 4), .int .i64 (R2 5), .int .i64 (R2 6), .int .i64 (R2 7)] 39)); have c1 := (B1.out.only o (by simp)).alloc (.cells #[.int .i64 P2, .int .i64 (R2 0), .int .i64 (R2 1), .int .i64 (R2 2), .int .i64 (R2 3), .int .i64 (R2 4), .int .i64 (R2 5), .int .i64 (R2 6), .int .i64 (R2 7)] 39); have c2 := (B2.out.only o (by simp)).alloc (.cells #[.int .i64 P2, .int .i64 (R2 0), .int .i64 (R2 1), .int .i64 (R2 2), .int .i64 (R2 3), .int .i64 (R2 4), .int .i64 (R2 5), .int .i64 (R2 6), .int .i64 (R2 7)] 39); have C3 := hide (Blk.new w1 39 #[.int .i64 P2, .int .i64 (R2 0), .int .i64 (R2 1), .int .i64 (R2 2), .int .i64 (R2 3), .int .i64 (R2 4), .int .i64 (R2 5), .int .i64 (R2 6), .int .i64 (R2 7)]); have i0 := c1.cell 0; have i1 := c1.cell 1; have i2 := c1.cell 2; have i3 := c1.cell 3; have i4 := c1.cell 4; have s0 := c2.cell 0; have s1 := c2.cell 1; have s2 := c2.cell 2; have s3 := c2.cell 3; have s4 := c2.cell 4; have s5 := c2.cell 5; have s6 := c2.cell 6; have s7 := c2.cell 7; have s8 := c2.cell 8; clear o c1 c2 A1 O1 B1 B2)
    | (go_at_call 15; (with_reducible refine (A2.out _).mono ?_); rintro e w2 ⟨rfl, o⟩; have O3 := hide ((O2.out.trans0 o).alloc (.cells #[.int .i64 P2, .int .i64 (R2 0), .int .i64 (R2 1), .int .i64 (R2 2), .int .i64 (R2 3), .int .i64 (R2 4), .int .i64 (R2 5), .int .i64 (R2 6), .int .i64 (R2 7)] 39)); have d3 := (C3.out.only o (by simp)).alloc (.cells #[.int .i64 P2, .int .i64 (R2 0), .int .i64 (R2 1), .int .i64 (R2 2), .int .i64 (R2 3), .int .i64 (R2 4), .int .i64 (R2 5), .int .i64 (R2 6), .int .i64 (R2 7)] 39); have d4 := Blk.new w2 39 #[.int .i64 P2, .int .i64 (R2 0), .int .i64 (R2 1), .int .i64 (R2 2), .int .i64 (R2 3), .int .i64 (R2 4), .int .i64 (R2 5), .int .i64 (R2 6), .int .i64 (R2 7)]; have u0 := d3.cell 0; have v0 := d4.cell 0; have u1 := d3.cell 1; have v1 := d4.cell 1; have u2 := d3.cell 2; have v2 := d4.cell 2; have u3 := d3.cell 3; have v3 := d4.cell 3; have u4 := d3.cell 4; have v4 := d4.cell 4; have u5 := d3.cell 5; have v5 := d4.cell 5; have u6 := d3.cell 6; have v6 := d4.cell 6; have u7 := d3.cell 7; have v7 := d4.cell 7; have u8 := d3.cell 8; have v8 := d4.cell 8; clear o d3 d4 A2 O2 C3)
    | (go_at_call 6; (with_reducible refine (KN.out _ O3.out).mono ?_); rintro e w3 ⟨rfl, o⟩; have O4 := hide (O3.out.trans0 o); clear o))
  go_ret
  exact ⟨rfl, O4.out⟩
end Go.Proofs.YtmaljajdmgkakaaDoor
