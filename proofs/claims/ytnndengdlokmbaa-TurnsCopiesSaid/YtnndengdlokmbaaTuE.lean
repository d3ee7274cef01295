/- Turns: two arrays are compared (plain). Condition: their cells. -/
import Derived.Test.YtnndengdlokmbaaTu20
import Derived.ChangeKeysEq
import Derived.Laws.StructEq
namespace Go.Proofs.Ytnndengdlokmbaa
open Go.RowKit
set_option linter.unusedVariables false
set_option linter.all false
set_option maxRecDepth 20000

theorem fields57 : (Try.prog.fieldsOf 57).toList.map (fun f => (decide (f.name ≠ "_"), f.type, f.offset)) = [(true, 4, 0), (true, 4, 1), (true, 3, 2), (true, 3, 3)] := by kernel_rfl
theorem eq57 (d : Nat) (xs ys : Array Value) (a b a' b' : Bool) (p l p' l' : Int) (x0 : xs[0]? = some (.bool a)) (x1 : xs[1]? = some (.bool b)) (x2 : xs[2]? = some (.int .i64 p)) (x3 : xs[3]? = some (.int .i64 l))
    (y0 : ys[0]? = some (.bool a')) (y1 : ys[1]? = some (.bool b')) (y2 : ys[2]? = some (.int .i64 p')) (y3 : ys[3]? = some (.int .i64 l')) (W : World) :
    (Op.equalIn (d + 2) 57 (.agg xs) (.agg ys)).run Try.prog W = .ok (a == a' && (b == b' && (p == p' && l == l'))) W := by
  rw [run_equalIn_struct W (d + 1) 57 xs ys (by kernel_rfl) (by kernel_rfl)]
  have hF := fields57
  generalize (Try.prog.fieldsOf 57).toList = L at hF ⊢
  have hlen : L.length = 4 := by have := congrArg List.length hF; simpa using this
  match L, hlen, hF with
  | [f0, f1, f2, f3], _, hF =>
    simp only [List.map_cons, List.map_nil, List.cons.injEq, Prod.mk.injEq, and_true, decide_eq_true_eq] at hF
    obtain ⟨⟨n0, t0, o0⟩, ⟨n1, t1, o1⟩, ⟨n2, t2, o2⟩, ⟨n3, t3, o3⟩⟩ := hF
    have P4 : Try.prog.plainKey 4 = true := by kernel_rfl
    have P3 : Try.prog.plainKey 3 = true := by kernel_rfl
    have q4 := fun (x y : Bool) => run_equalIn_bool W d 4 x y Try.underlying4
    have q3 := fun (x y : Int) => run_equalIn_int W d 3 .i64 .i64 x y Try.underlying3
    simp only [Op.eqFields, n0, n1, n2, n3, ne_eq, not_false_eq_true, if_true, Sem.run_bind, t0, t1, t2, t3, o0, o1, o2, o3, run_part_plain W P4 x0, run_part_plain W P4 x1, run_part_plain W P3 x2, run_part_plain W P3 x3, run_part_plain W P4 y0, run_part_plain W P4 y1, run_part_plain W P3 y2, run_part_plain W P3 y3, Result.andThen_ok, q4, q3, Sem.run_ite, Sem.run_pure]
    by_cases h0 : a = a' <;> by_cases h1 : b = b' <;> by_cases h2 : p = p' <;> by_cases h3 : l = l' <;> simp [h0, h1, h2, h3]
theorem eq_items {P : Program} (d e c : Nat) (xs ys : Array Value) (n : Nat) (f : Nat → Bool) (W : World) (h : ∀ j, j < n → ∃ a b, (part e xs (j * c)).run P W = .ok a W ∧ (part e ys (j * c)).run P W = .ok b W ∧ (Op.equalIn d e a b).run P W = .ok (f j) W) :
    ∀ is : List Nat, (∀ j ∈ is, j < n) → (Op.eqItems d e c xs ys is).run P W = .ok (is.all f) W
  | [], _ => by simp [Op.eqItems]
  | j :: is, hi => by
    obtain ⟨a, b, h1, h2, h3⟩ := h j (hi j (by simp))
    have ih := eq_items d e c xs ys n f W h is (fun j hj => hi j (by simp [hj]))
    simp only [Op.eqItems, Sem.run_bind, h1, h2, h3, Result.andThen_ok, List.all_cons]
    cases hf : f j
    · simp
    · simpa [hf] using ih
def has4 (xs : Array Value) (i r : Nat → Bool) (p l : Nat → Int) : Prop := ∀ t, t < 16 → xs[t * 4]? = some (.bool (i t)) ∧ xs[t * 4 + 1]? = some (.bool (r t)) ∧ xs[t * 4 + 2]? = some (.int .i64 (p t)) ∧ xs[t * 4 + 3]? = some (.int .i64 (l t))
theorem eq58 (xs ys : Array Value) (i r i' r' : Nat → Bool) (p l p' l' : Nat → Int) (hx : has4 xs i r p l) (hy : has4 ys i' r' p' l') (W : World) :
    (Op.equal 58 (.agg xs) (.agg ys)).run Try.prog W = .ok ((List.range 16).all fun t => i t == i' t && (r t == r' t && (p t == p' t && l t == l' t))) W := by
  obtain ⟨inf, hi⟩ := info_of_underlying (P := Try.prog) Try.underlying57
  have hc : Try.prog.cellsOf 57 = 4 := by kernel_rfl
  show (Op.equalIn (9999 + 1) 58 (.agg xs) (.agg ys)).run Try.prog W = _
  rw [run_equalIn_array W 9999 xs ys Try.underlying58 hi, hc]
  refine eq_items 9999 57 4 xs ys 16 _ W (fun j hj => ?_) _ (fun j hj => List.mem_range.1 hj)
  have hp : ∀ zs : Array Value, (part 57 zs (j * 4)).run Try.prog W = .ok (.agg (zs.extract (j * 4) (j * 4 + 4))) W := fun zs => by
    simp [part, isAgg, run_underlying Try.underlying57, run_sizeOf W hi, hc]
  refine ⟨_, _, hp xs, hp ys, ?_⟩
  obtain ⟨a0, a1, a2, a3⟩ := hx j hj
  obtain ⟨b0, b1, b2, b3⟩ := hy j hj
  have ex : ∀ (zs : Array Value) (k : Nat) (v : Value), k < 4 → zs[j * 4 + k]? = some v → (zs.extract (j * 4) (j * 4 + 4))[k]? = some v := fun zs k v hk h => by
    have hlt := (Array.getElem?_eq_some_iff.1 h).1
    rw [Array.getElem?_extract, if_pos (by omega)]
    exact h
  exact eq57 9997 _ _ _ _ _ _ _ _ _ _ (ex xs 0 _ (by omega) a0) (ex xs 1 _ (by omega) a1) (ex xs 2 _ (by omega) a2) (ex xs 3 _ (by omega) a3) (ex ys 0 _ (by omega) b0) (ex ys 1 _ (by omega) b1) (ex ys 2 _ (by omega) b2) (ex ys 3 _ (by omega) b3) W
/-- Sixteen numbers, sixteen flags. -/
theorem eq50 (xs ys : Array Value) (f g : Nat → Int) (hx : ∀ t, t < 16 → xs[t]? = some (.int .i64 (f t))) (hy : ∀ t, t < 16 → ys[t]? = some (.int .i64 (g t))) (W : World) :
    (Op.equal 50 (.agg xs) (.agg ys)).run Try.prog W = .ok ((List.range 16).all fun t => f t == g t) W := by
  obtain ⟨inf, hi⟩ := info_of_underlying (P := Try.prog) Try.underlying3
  have hc : Try.prog.cellsOf 3 = 1 := by kernel_rfl
  have P3 : Try.prog.plainKey 3 = true := by kernel_rfl
  show (Op.equalIn (9999 + 1) 50 (.agg xs) (.agg ys)).run Try.prog W = _
  rw [run_equalIn_array W 9999 xs ys Try.underlying50 hi, hc]
  refine eq_items 9999 3 1 xs ys 16 _ W (fun j hj => ?_) _ (fun j hj => List.mem_range.1 hj)
  rw [Nat.mul_one]
  exact ⟨_, _, run_part_plain W P3 (hx j hj), run_part_plain W P3 (hy j hj), run_equalIn_int W 9998 3 .i64 .i64 _ _ Try.underlying3⟩
theorem eq51 (xs ys : Array Value) (f g : Nat → Bool) (hx : ∀ t, t < 16 → xs[t]? = some (.bool (f t))) (hy : ∀ t, t < 16 → ys[t]? = some (.bool (g t))) (W : World) :
    (Op.equal 51 (.agg xs) (.agg ys)).run Try.prog W = .ok ((List.range 16).all fun t => f t == g t) W := by
  obtain ⟨inf, hi⟩ := info_of_underlying (P := Try.prog) Try.underlying4
  have hc : Try.prog.cellsOf 4 = 1 := by kernel_rfl
  have P4 : Try.prog.plainKey 4 = true := by kernel_rfl
  show (Op.equalIn (9999 + 1) 51 (.agg xs) (.agg ys)).run Try.prog W = _
  rw [run_equalIn_array W 9999 xs ys Try.underlying51 hi, hc]
  refine eq_items 9999 4 1 xs ys 16 _ W (fun j hj => ?_) _ (fun j hj => List.mem_range.1 hj)
  rw [Nat.mul_one]
  exact ⟨_, _, run_part_plain W P4 (hx j hj), run_part_plain W P4 (hy j hj), run_equalIn_bool W 9998 4 _ _ Try.underlying4⟩
end Go.Proofs.Ytnndengdlokmbaa
