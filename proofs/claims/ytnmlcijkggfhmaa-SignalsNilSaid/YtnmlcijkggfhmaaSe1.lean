/- Signals: arrays and signals compared; the walk of the document's Same. Condition: both lie, or are not there. -/
import Derived.Test.YtnmlcijkggfhmaaSd7
import Derived.ChangeKeysEq
import Derived.Laws.StructEq
namespace Go.Proofs.Ytnmlcijkggfhmaa
open Go.RowKit
set_option linter.unusedVariables false
set_option linter.all false
set_option maxRecDepth 20000

theorem eq_items {P : Program} (d e c : Nat) (xs ys : Array Value) (n : Nat) (f : Nat → Bool) (W : World) (h : ∀ j, j < n → ∃ a b, (part e xs (j * c)).run P W = .ok a W ∧ (part e ys (j * c)).run P W = .ok b W ∧ (Op.equalIn d e a b).run P W = .ok (f j) W) :
    ∀ is : List Nat, (∀ j ∈ is, j < n) → (Op.eqItems d e c xs ys is).run P W = .ok (is.all f) W
  | [], _ => by simp [Op.eqItems]
  | j :: is, hi => by
    obtain ⟨a, b, h1, h2, h3⟩ := h j (hi j (by simp))
    have ih := eq_items d e c xs ys n f W h is (fun j hj => hi j (by simp [hj]))
    simp only [Op.eqItems, Sem.run_bind, h1, h2, h3, Result.andThen_ok, List.all_cons]
    cases hf : f j
    · simp
    · simpa [hf] using ih
/-- Sixteen sets. -/
theorem eq58 (xs ys : Array Value) (f g : Nat → Nat) (hx : ∀ t, t < 16 → xs[t]? = some (.int .u32 (f t))) (hy : ∀ t, t < 16 → ys[t]? = some (.int .u32 (g t))) (W : World) :
    (Op.equal 58 (.agg xs) (.agg ys)).run Try.prog W = .ok ((List.range 16).all fun t => (f t : Int) == (g t : Int)) W := by
  obtain ⟨inf, hi⟩ := info_of_underlying (P := Try.prog) Try.underlying31
  have hc : Try.prog.cellsOf 31 = 1 := by kernel_rfl
  have P3 : Try.prog.plainKey 31 = true := by kernel_rfl
  show (Op.equalIn (9999 + 1) 58 (.agg xs) (.agg ys)).run Try.prog W = _
  rw [run_equalIn_array W 9999 xs ys Try.underlying58 hi, hc]
  refine eq_items 9999 31 1 xs ys 16 _ W (fun j hj => ?_) _ (fun j hj => List.mem_range.1 hj)
  rw [Nat.mul_one]
  exact ⟨_, _, run_part_plain W P3 (hx j hj), run_part_plain W P3 (hy j hj), run_equalIn_int W 9998 31 .u32 .u32 _ _ Try.underlying31⟩
def same16 (f g : Nat → Nat) : Bool := (List.range 16).all fun t => (f t : Int) == (g t : Int)
theorem same16_iff (f g : Nat → Nat) : same16 f g = true ↔ ∀ i, i < 16 → f i = g i := by
  unfold same16
  simp only [List.all_eq_true, List.mem_range, beq_iff_eq]
  constructor
  · intro h i hi; have := h i hi; omega
  · intro h i hi; rw [h i hi]
theorem eql58 (xs ys : Array Value) (f g : Nat → Nat) (hx : ∀ t, t < 16 → xs[t]? = some (.int .u32 (f t))) (hy : ∀ t, t < 16 → ys[t]? = some (.int .u32 (g t))) (W : World) : (binOp .eql 58 (.agg xs) (.agg ys)).run Try.prog W = .ok (.bool (same16 f g)) W := by
  simp only [binOp]
  simp [eq58 xs ys f g hx hy W, same16]
theorem neq58 (xs ys : Array Value) (f g : Nat → Nat) (hx : ∀ t, t < 16 → xs[t]? = some (.int .u32 (f t))) (hy : ∀ t, t < 16 → ys[t]? = some (.int .u32 (g t))) (W : World) : (binOp .neq 58 (.agg xs) (.agg ys)).run Try.prog W = .ok (.bool (!same16 f g)) W := by
  simp only [binOp]
  simp [eq58 xs ys f g hx hy W, same16]
theorem fields36 : (Try.prog.fieldsOf 36).toList.map (fun f => (decide (f.name ≠ "_"), f.type, f.offset)) = [(true, 3, 0), (true, 2, 1)] := by kernel_rfl
theorem eq36 (n n' v v' : Int) (W : World) : (Op.equal 36 (.agg #[.int .i64 n, .int .i64 v]) (.agg #[.int .i64 n', .int .i64 v'])).run Try.prog W = .ok (n == n' && v == v') W := by
  show (Op.equalIn (9999 + 1) 36 _ _).run Try.prog W = _
  rw [run_equalIn_struct W 9999 36 _ _ (by kernel_rfl) (by kernel_rfl)]
  have hF := fields36
  generalize (Try.prog.fieldsOf 36).toList = L at hF ⊢
  have hlen : L.length = 2 := by have := congrArg List.length hF; simpa using this
  match L, hlen, hF with
  | [f0, f1], _, hF =>
    simp only [List.map_cons, List.map_nil, List.cons.injEq, Prod.mk.injEq, and_true, decide_eq_true_eq] at hF
    obtain ⟨⟨n0, t0, o0⟩, ⟨n1, t1, o1⟩⟩ := hF
    have P3 : Try.prog.plainKey 3 = true := by kernel_rfl
    have P2 : Try.prog.plainKey 2 = true := by kernel_rfl
    have q3 := fun (x y : Int) => run_equalIn_int (P := Try.prog) W 9998 3 .i64 .i64 x y Try.underlying3
    have q2 := fun (x y : Int) => run_equalIn_int (P := Try.prog) W 9998 2 .i64 .i64 x y Try.underlying2
    have x0 : (#[Value.int .i64 n, .int .i64 v])[0]? = some (.int .i64 n) := rfl
    have x1 : (#[Value.int .i64 n, .int .i64 v])[1]? = some (.int .i64 v) := rfl
    have y0 : (#[Value.int .i64 n', .int .i64 v'])[0]? = some (.int .i64 n') := rfl
    have y1 : (#[Value.int .i64 n', .int .i64 v'])[1]? = some (.int .i64 v') := rfl
    simp only [Op.eqFields, n0, n1, ne_eq, not_false_eq_true, if_true, Sem.run_bind, t0, t1, o0, o1, run_part_plain W P3 x0, run_part_plain W P2 x1, run_part_plain W P3 y0, run_part_plain W P2 y1, Result.andThen_ok, q3, q2, Sem.run_ite, Sem.run_pure]
    by_cases h0 : n = n' <;> by_cases h1 : v = v' <;> simp [h0, h1]
theorem eql36 (n n' v v' : Int) (W : World) : (binOp .eql 36 (.agg #[.int .i64 n, .int .i64 v]) (.agg #[.int .i64 n', .int .i64 v'])).run Try.prog W = .ok (.bool (n == n' && v == v')) W := by
  simp only [binOp]
  simp [eq36 n n' v v' W]
theorem neq36 (n n' v v' : Int) (W : World) : (binOp .neq 36 (.agg #[.int .i64 n, .int .i64 v]) (.agg #[.int .i64 n', .int .i64 v'])).run Try.prog W = .ok (.bool (!(n == n' && v == v'))) W := by
  simp only [binOp]
  simp [eq36 n n' v v' W]
/-- Are two the same? -/
def sameS (T S : Nat) (L : List Snt) (M : Nat → Nat) (T' S' : Nat) (L' : List Snt) (M' : Nat → Nat) : Bool := decide (T = T') && decide (S = S') && same16 M M' && (List.range T).all fun t => decide (allOf L t = allOf L' t)
theorem rsame_nil1 (p : Option Addr) (w : World) : Calls Try.prog 18 #[.pointer none, .pointer p] w fun e w' => e = .returned (.bool p.isNone) ∧ w' = w := by
  cases p with
  | none =>
    go_enter Try.func18, Try.ntmps18
    go_wp2_with fail
    go_ret
    exact ⟨rfl, rfl⟩
  | some a =>
    go_enter Try.func18, Try.ntmps18
    go_wp2_with fail
    go_ret
    exact ⟨rfl, rfl⟩
theorem rsame_nil2 (a : Nat) (w : World) : Calls Try.prog 18 #[ptr a, .pointer none] w fun e w' => e = .returned (.bool false) ∧ w' = w := by
  unfold ptr
  go_enter Try.func18, Try.ntmps18
  go_wp2_with fail
  go_ret
  exact ⟨rfl, rfl⟩
section
variable {w : World} {d T S : Nat} {L : List Snt} {M : Nat → Nat}
theorem DS.range (h : DS w d T S L M) : ∃ cs : List Value, cs.length = 16 ∧ (∀ V, Only [] w V → V.rangeAt d 2 cs) ∧ ∀ t, t < 16 → cs.toArray[t]? = some (.int .u32 (M t)) := by
  obtain ⟨cs, A, c, hb, hC, _⟩ := h.cells
  refine ⟨(cs.toList.drop 2).take 16, by simp [hC.size], fun V o j v hj => ?_, fun t ht => ?_⟩
  · rw [(hb.only o (by simp)).cell]
    rw [List.getElem?_take] at hj
    split at hj
    · rw [List.getElem?_drop] at hj
      simpa using hj
    · cases hj
  · rw [List.getElem?_toArray, List.getElem?_take, if_pos ht, List.getElem?_drop]
    have := hC.m t ht
    simpa using this
theorem size58 : (Try.prog.info? 58).map (·.size) = some 16 := by kernel_rfl
theorem sameS_true {T S : Nat} {L : List Snt} {M : Nat → Nat} {T' S' : Nat} {L' : List Snt} {M' : Nat → Nat} : sameS T S L M T' S' L' M' = true ↔ T = T' ∧ S = S' ∧ same16 M M' = true ∧ ∀ t, t < T → allOf L t = allOf L' t := by
  unfold sameS
  simp [and_assoc]
theorem GV_cell {W : World} {B c : Nat} {A : Option Addr} {l : List (Nat × Int)} (h : W.ownsRow B 36 2 (.slice A l.length c) l.length (GV l)) {i : Nat} {x : Nat × Int} (hx : l[i]? = some x) : ∃ g, A = some ⟨g, 0, none⟩ ∧ W.cell? ⟨g, i * 2, none⟩ = some (.int .i64 (x.1 : Nat)) ∧ W.cell? ⟨g, i * 2 + 1, none⟩ = some (.int .i64 x.2) := by
  have hi := (List.getElem?_eq_some_iff.1 hx).1
  obtain ⟨g, e, hc, _⟩ := own_cell h (by omega)
  obtain ⟨h1, h2⟩ := GV_get l i x hx
  exact ⟨g, e, (hc _ (by omega)).trans h1, (hc _ (by omega)).trans h2⟩
theorem list_differ {α : Type} {l m : List α} (hl : l.length = m.length) (h : l ≠ m) : ∃ i x y, l[i]? = some x ∧ m[i]? = some y ∧ x ≠ y ∧ l.take i = m.take i := by
  induction l generalizing m with
  | nil => cases m with
    | nil => exact absurd rfl h
    | cons b m => simp at hl
  | cons a l ih => cases m with
    | nil => simp at hl
    | cons b m =>
      by_cases e : a = b
      · subst e
        obtain ⟨i, x, y, h1, h2, h3, h4⟩ := ih (m := m) (by simpa using hl) (fun e => h (by rw [e]))
        exact ⟨i + 1, x, y, by simpa using h1, by simpa using h2, h3, by simp [h4]⟩
      · exact ⟨0, a, b, rfl, rfl, e, rfl⟩
variable {d' T' S' : Nat} {L' : List Snt} {M' : Nat → Nat}
theorem rsame_t (h : DS w d T S L M) (h' : DS w d' T' S' L' M') (hc : T ≠ T') : Calls Try.prog 18 #[ptr d, ptr d'] w fun e w' => e = .returned (.bool false) ∧ Only [] w w' := by
  obtain ⟨A, c, k0, k1, _⟩ := h.at
  obtain ⟨A', c', j0, j1, _⟩ := h'.at
  have d1 : ((T : Int) != (T' : Int)) = true := by simp; omega
  have d2 : ((T : Int) == (T' : Int)) = false := by simp; omega
  clear h h' hc
  unfold ptr
  go_enter Try.func18, Try.ntmps18
  go_wp2_with fail
  go_quiet (fail)
  go_wp2_with fail
  go_ret
  exact ⟨rfl, (Only.refl [] w).drewN _⟩
theorem rsame_s (h : DS w d T S L M) (h' : DS w d' T S' L' M') (hc : S ≠ S') : Calls Try.prog 18 #[ptr d, ptr d'] w fun e w' => e = .returned (.bool false) ∧ Only [] w w' := by
  obtain ⟨A, c, k0, k1, _⟩ := h.at
  obtain ⟨A', c', j0, j1, _⟩ := h'.at
  have d1 : ((S : Int) != (S' : Int)) = true := by simp; omega
  have d2 : ((S : Int) == (S' : Int)) = false := by simp; omega
  clear h h' hc
  unfold ptr
  go_enter Try.func18, Try.ntmps18
  go_wp2_with fail
  go_quiet (fail)
  go_wp2_with fail
  go_ret
  exact ⟨rfl, (Only.refl [] w).drewN _⟩
set_option maxHeartbeats 4000000 in
theorem rsame_m (h : DS w d T S L M) (h' : DS w d' T S L' M') (hc : same16 M M' = false) : Calls Try.prog 18 #[ptr d, ptr d'] w fun e w' => e = .returned (.bool false) ∧ Only [] w w' := by
  obtain ⟨A, c, k0, k1, _⟩ := h.at
  obtain ⟨A', c', j0, j1, _⟩ := h'.at
  obtain ⟨xs, hx1, hx2, hx3⟩ := h.range
  obtain ⟨ys, hy1, hy2, hy3⟩ := h'.range
  have NE := fun W => neq58 xs.toArray ys.toArray M M' hx3 hy3 W
  have XA := hide hx2
  have XB := hide hy2
  have SA := hide (show (Try.prog.info? 58).map (·.size) = some xs.length by rw [hx1]; exact size58)
  have SB := hide (show (Try.prog.info? 58).map (·.size) = some ys.length by rw [hy1]; exact size58)
  have K := hide (fun V (o : Only [] w V) => (⟨o.keep0 k0, o.keep0 k1, o.keep0 j0, o.keep0 j1⟩ : _ ∧ _ ∧ _ ∧ _))
  have U58 := hide Try.underlying58
  clear hx1 hx2 hx3 hy1 hy2 hy3 h h'
  unfold ptr
  rw [hc] at NE
  go_enter Try.func18, Try.ntmps18
  go_wp2_with fail
  refine wp_region_held_drew (S := (fun V => Only [] w V)) (by kernel_rfl) ((Only.refl [] w).drew) (fun hHeld => ?_)
  refine wpAnyH_take (i := 0) (oi := ⟨some 21, _, _, _, _, _⟩) (v := ?vra1) rfl (by kernel_rfl) (by kernel_rfl) (by kernel_rfl) (fun _ _ _ h => h) (Or.inl ⟨by rfl, ?hyra1⟩) (by assumption) ?restra1
  case hyra1 => (intro V hSw; (try dsimp only at hSw); go_simp; first | done | (with_reducible rfl))
  try simp only [Act.put, List.setIfInBounds_toArray, List.set_cons_zero, List.set_cons_succ]
  refine wpAnyH_take (i := 1) (oi := ⟨some 22, _, _, _, _, _⟩) (v := ?vra2) rfl (by kernel_rfl) (by kernel_rfl) (by kernel_rfl) (fun _ _ _ h => h) (Or.inl ⟨by rfl, ?hyra2⟩) (by assumption) ?restra2
  case hyra2 => (intro V hSw; (try dsimp only at hSw); go_simp; first | done | (with_reducible rfl))
  try simp only [Act.put, List.setIfInBounds_toArray, List.set_cons_zero, List.set_cons_succ]
  refine wpAnyH_take (i := 2) (oi := ⟨some 23, _, _, _, _, _⟩) (v := ?vra3) rfl (by kernel_rfl) (by kernel_rfl) (by kernel_rfl) (fun _ _ _ h => h) (Or.inl ⟨by rfl, ?hyra3⟩) (by assumption) ?restra3
  case hyra3 => (intro V hSw; (try dsimp only at hSw); go_simp; first | done | (with_reducible rfl))
  try simp only [Act.put, List.setIfInBounds_toArray, List.set_cons_zero, List.set_cons_succ]
  refine wpAnyH_take (i := 3) (oi := ⟨some 24, _, _, _, _, _⟩) (v := ?vra4) rfl (by kernel_rfl) (by kernel_rfl) (by kernel_rfl) (fun _ _ _ h => h) (Or.inl ⟨by rfl, ?hyra4⟩) (by assumption) ?restra4
  case hyra4 => (intro V hSw; (try dsimp only at hSw); obtain ⟨z1, z2, z3, z4⟩ := K.out V hSw; go_simp; first | done | (with_reducible rfl))
  try simp only [Act.put, List.setIfInBounds_toArray, List.set_cons_zero, List.set_cons_succ]
  refine wpAnyH_take (i := 4) (oi := ⟨some 25, _, _, _, _, _⟩) (v := ?vra5) rfl (by kernel_rfl) (by kernel_rfl) (by kernel_rfl) (fun _ _ _ h => h) (Or.inl ⟨by rfl, ?hyra5⟩) (by assumption) ?restra5
  case hyra5 => (intro V hSw; (try dsimp only at hSw); go_simp; first | done | (with_reducible rfl))
  try simp only [Act.put, List.setIfInBounds_toArray, List.set_cons_zero, List.set_cons_succ]
  refine wpAnyH_take (i := 5) (oi := ⟨some 26, _, _, _, _, _⟩) (v := ?vra6) rfl (by kernel_rfl) (by kernel_rfl) (by kernel_rfl) (fun _ _ _ h => h) (Or.inl ⟨by rfl, ?hyra6⟩) (by assumption) ?restra6
  case hyra6 => (intro V hSw; (try dsimp only at hSw); go_simp; first | done | (with_reducible rfl))
  try simp only [Act.put, List.setIfInBounds_toArray, List.set_cons_zero, List.set_cons_succ]
  refine wpAnyH_take (i := 6) (oi := ⟨some 27, _, _, _, _, _⟩) (v := ?vra7) rfl (by kernel_rfl) (by kernel_rfl) (by kernel_rfl) (fun _ _ _ h => h) (Or.inl ⟨by rfl, ?hyra7⟩) (by assumption) ?restra7
  case hyra7 => (intro V hSw; (try dsimp only at hSw); go_simp; first | done | (with_reducible rfl))
  try simp only [Act.put, List.setIfInBounds_toArray, List.set_cons_zero, List.set_cons_succ]
  refine wpAnyH_take (i := 7) (oi := ⟨some 28, _, _, _, _, _⟩) (v := ?vra8) rfl (by kernel_rfl) (by kernel_rfl) (by kernel_rfl) (fun _ _ _ h => h) (Or.inl ⟨by rfl, ?hyra8⟩) (by assumption) ?restra8
  case hyra8 => (intro V hSw; (try dsimp only at hSw); obtain ⟨z1, z2, z3, z4⟩ := K.out V hSw; go_simp; first | done | (with_reducible rfl))
  try simp only [Act.put, List.setIfInBounds_toArray, List.set_cons_zero, List.set_cons_succ]
  refine wpAnyH_take (i := 8) (oi := ⟨some 29, _, _, _, _, _⟩) (v := ?vra9) rfl (by kernel_rfl) (by kernel_rfl) (by kernel_rfl) (fun _ _ _ h => h) (Or.inl ⟨by rfl, ?hyra9⟩) (by assumption) ?restra9
  case hyra9 => (intro V hSw; (try dsimp only at hSw); go_simp; first | done | (with_reducible rfl))
  try simp only [Act.put, List.setIfInBounds_toArray, List.set_cons_zero, List.set_cons_succ]
  refine wpAnyH_take (i := 9) (oi := ⟨some 30, _, _, _, _, _⟩) (v := ?vra10) rfl (by kernel_rfl) (by kernel_rfl) (by kernel_rfl) (fun _ _ _ h => h) (Or.inl ⟨by rfl, ?hyra10⟩) (by assumption) ?restra10
  case hyra10 => (intro V hSw; (try dsimp only at hSw); go_simp; first | done | (with_reducible rfl))
  try simp only [Act.put, List.setIfInBounds_toArray, List.set_cons_zero, List.set_cons_succ]
  refine wpAnyH_take (i := 10) (oi := ⟨some 31, _, _, _, _, _⟩) (v := ?vra11) rfl (by kernel_rfl) (by kernel_rfl) (by kernel_rfl) (fun _ _ _ h => h) (Or.inl ⟨by rfl, ?hyra11⟩) (by assumption) ?restra11
  case hyra11 => (intro V hSw; (try dsimp only at hSw); go_simp; first | done | (with_reducible rfl))
  try simp only [Act.put, List.setIfInBounds_toArray, List.set_cons_zero, List.set_cons_succ]
  refine wpAnyH_take (i := 11) (oi := ⟨some 32, _, _, _, _, _⟩) (v := ?vra12) rfl (by kernel_rfl) (by kernel_rfl) (by kernel_rfl) (fun _ _ _ h => h) (Or.inl ⟨by rfl, ?hyra12⟩) (by assumption) ?restra12
  case hyra12 => (intro V hSw; (try dsimp only at hSw); go_simp; first | done | (with_reducible rfl))
  try simp only [Act.put, List.setIfInBounds_toArray, List.set_cons_zero, List.set_cons_succ]
  refine wpAnyH_take (i := 12) (oi := ⟨some 33, _, _, _, _, _⟩) (v := ?vra13) rfl (by kernel_rfl) (by kernel_rfl) (by kernel_rfl) (fun _ _ _ h => h) (Or.inl ⟨by rfl, ?hyra13⟩) (by assumption) ?restra13
  case hyra13 => (intro V hSw; (try dsimp only at hSw); go_simp; first | done | (with_reducible rfl))
  try simp only [Act.put, List.setIfInBounds_toArray, List.set_cons_zero, List.set_cons_succ]
  refine wpAnyH_take (i := 13) (oi := ⟨some 34, _, _, _, _, _⟩) (v := ?vra14) rfl (by kernel_rfl) (by kernel_rfl) (by kernel_rfl) (fun _ _ _ h => h) (Or.inl ⟨by rfl, ?hyra14⟩) (by assumption) ?restra14
  case hyra14 => (intro V hSw; (try dsimp only at hSw); obtain ⟨z1, z2, z3, z4⟩ := K.out V hSw; go_simp; first | done | (with_reducible rfl))
  try simp only [Act.put, List.setIfInBounds_toArray, List.set_cons_zero, List.set_cons_succ]
  refine wpAnyH_take (i := 14) (oi := ⟨some 35, _, _, _, _, _⟩) (v := ?vra15) rfl (by kernel_rfl) (by kernel_rfl) (by kernel_rfl) (fun _ _ _ h => h) (Or.inl ⟨by rfl, ?hyra15⟩) (by assumption) ?restra15
  case hyra15 => (intro V hSw; (try dsimp only at hSw); go_simp; first | done | (with_reducible rfl))
  try simp only [Act.put, List.setIfInBounds_toArray, List.set_cons_zero, List.set_cons_succ]
  refine wpAnyH_take (i := 15) (oi := ⟨some 36, _, _, _, _, _⟩) (v := ?vra16) rfl (by kernel_rfl) (by kernel_rfl) (by kernel_rfl) (fun _ _ _ h => h) (Or.inl ⟨by rfl, ?hyra16⟩) (by assumption) ?restra16
  case hyra16 => (intro V hSw; (try dsimp only at hSw); go_simp; first | done | (with_reducible rfl))
  try simp only [Act.put, List.setIfInBounds_toArray, List.set_cons_zero, List.set_cons_succ]
  refine wpAnyH_take (i := 16) (oi := ⟨some 37, _, _, _, _, _⟩) (v := ?vra17) rfl (by kernel_rfl) (by kernel_rfl) (by kernel_rfl) (fun _ _ _ h => h) (Or.inl ⟨by rfl, ?hyra17⟩) (by assumption) ?restra17
  case hyra17 => (intro V hSw; (try dsimp only at hSw); go_simp; first | done | (with_reducible rfl))
  try simp only [Act.put, List.setIfInBounds_toArray, List.set_cons_zero, List.set_cons_succ]
  refine wpAnyH_take (i := 17) (oi := ⟨some 38, _, _, _, _, _⟩) (v := ?vra18) rfl (by kernel_rfl) (by kernel_rfl) (by kernel_rfl) (fun _ _ _ h => h) (Or.inl ⟨by rfl, ?hyra18⟩) (by assumption) ?restra18
  case hyra18 => (intro V hSw; (try dsimp only at hSw); obtain ⟨z1, z2, z3, z4⟩ := K.out V hSw; go_simp; first | done | (with_reducible rfl))
  try simp only [Act.put, List.setIfInBounds_toArray, List.set_cons_zero, List.set_cons_succ]
  refine wpAnyH_take (i := 18) (oi := ⟨some 39, _, _, _, _, _⟩) (v := ?vra19) rfl (by kernel_rfl) (by kernel_rfl) (by kernel_rfl) (fun _ _ _ h => h) (Or.inl ⟨by rfl, ?hyra19⟩) (by assumption) ?restra19
  case hyra19 => (intro V hSw; (try dsimp only at hSw); go_simp; first | done | (with_reducible rfl))
  try simp only [Act.put, List.setIfInBounds_toArray, List.set_cons_zero, List.set_cons_succ]
  refine wpAnyH_take (i := 19) (oi := ⟨some 40, _, _, _, _, _⟩) (v := ?vra20) rfl (by kernel_rfl) (by kernel_rfl) (by kernel_rfl) (fun _ _ _ h => h) (Or.inl ⟨by rfl, ?hyra20⟩) (by assumption) ?restra20
  case hyra20 => (intro V hSw; (try dsimp only at hSw); go_simp; first | done | (with_reducible rfl))
  try simp only [Act.put, List.setIfInBounds_toArray, List.set_cons_zero, List.set_cons_succ]
  refine wpAnyH_take (i := 20) (oi := ⟨some 41, _, _, _, _, _⟩) (v := ?vra21) rfl (by kernel_rfl) (by kernel_rfl) (by kernel_rfl) (fun _ _ _ h => h) (Or.inl ⟨by rfl, ?hyra21⟩) (by assumption) ?restra21
  case hyra21 => (intro V hSw; (try dsimp only at hSw); go_simp; first | done | (with_reducible rfl))
  try simp only [Act.put, List.setIfInBounds_toArray, List.set_cons_zero, List.set_cons_succ]
  refine wpAnyH_take (i := 21) (oi := ⟨some 42, _, _, _, _, _⟩) (v := ?vra22) rfl (by kernel_rfl) (by kernel_rfl) (by kernel_rfl) (fun _ _ _ h => h) (Or.inl ⟨by rfl, ?hyra22⟩) (by assumption) ?restra22
  case hyra22 => (intro V hSw; (try dsimp only at hSw); go_simp; first | done | (with_reducible rfl))
  try simp only [Act.put, List.setIfInBounds_toArray, List.set_cons_zero, List.set_cons_succ]
  refine wpAnyH_take (i := 22) (oi := ⟨some 43, _, _, _, _, _⟩) (v := ?vra23) rfl (by kernel_rfl) (by kernel_rfl) (by kernel_rfl) (fun _ _ _ h => h) (Or.inl ⟨by rfl, ?hyra23⟩) (by assumption) ?restra23
  case hyra23 => (intro V hSw; (try dsimp only at hSw); go_simp; first | done | (with_reducible rfl))
  try simp only [Act.put, List.setIfInBounds_toArray, List.set_cons_zero, List.set_cons_succ]
  refine wpAnyH_take (i := 23) (oi := ⟨some 44, _, _, _, _, _⟩) (v := ?vra24) rfl (by kernel_rfl) (by kernel_rfl) (by kernel_rfl) (fun _ _ _ h => h) (Or.inl ⟨by rfl, ?hyra24⟩) (by assumption) ?restra24
  case hyra24 => (intro V hSw; (try dsimp only at hSw); go_simp; first | done | (with_reducible rfl))
  try simp only [Act.put, List.setIfInBounds_toArray, List.set_cons_zero, List.set_cons_succ]
  refine' wpAnyH_take (i := 24) (oi := ⟨some 45, _, _, _, _, _⟩) (v := _) rfl (by kernel_rfl) (by kernel_rfl) (by kernel_rfl) (fun _ _ _ h => h) (yieldsIf_load_mid (by rfl) _ _ rfl _ _ rfl _ _ (fun V hSw => XA.out V hSw) U58.out rfl SA.out) (by assumption) ?restra25
  try simp only [Act.put, List.setIfInBounds_toArray, List.set_cons_zero, List.set_cons_succ]
  refine wpAnyH_take (i := 25) (oi := ⟨some 46, _, _, _, _, _⟩) (v := ?vra26) rfl (by kernel_rfl) (by kernel_rfl) (by kernel_rfl) (fun _ _ _ h => h) (Or.inl ⟨by rfl, ?hyra26⟩) (by assumption) ?restra26
  case hyra26 => (intro V hSw; (try dsimp only at hSw); go_simp; first | done | (with_reducible rfl))
  try simp only [Act.put, List.setIfInBounds_toArray, List.set_cons_zero, List.set_cons_succ]
  refine wpAnyH_take (i := 26) (oi := ⟨some 47, _, _, _, _, _⟩) (v := ?vra27) rfl (by kernel_rfl) (by kernel_rfl) (by kernel_rfl) (fun _ _ _ h => h) (Or.inl ⟨by rfl, ?hyra27⟩) (by assumption) ?restra27
  case hyra27 => (intro V hSw; (try dsimp only at hSw); go_simp; first | done | (with_reducible rfl))
  try simp only [Act.put, List.setIfInBounds_toArray, List.set_cons_zero, List.set_cons_succ]
  refine wpAnyH_take (i := 27) (oi := ⟨some 48, _, _, _, _, _⟩) (v := ?vra28) rfl (by kernel_rfl) (by kernel_rfl) (by kernel_rfl) (fun _ _ _ h => h) (Or.inl ⟨by rfl, ?hyra28⟩) (by assumption) ?restra28
  case hyra28 => (intro V hSw; (try dsimp only at hSw); go_simp; first | done | (with_reducible rfl))
  try simp only [Act.put, List.setIfInBounds_toArray, List.set_cons_zero, List.set_cons_succ]
  refine' wpAnyH_take (i := 28) (oi := ⟨some 49, _, _, _, _, _⟩) (v := _) rfl (by kernel_rfl) (by kernel_rfl) (by kernel_rfl) (fun _ _ _ h => h) (yieldsIf_load_mid (by rfl) _ _ rfl _ _ rfl _ _ (fun V hSw => XB.out V hSw) U58.out rfl SB.out) (by assumption) ?restra29
  try simp only [Act.put, List.setIfInBounds_toArray, List.set_cons_zero, List.set_cons_succ]
  refine wpAnyH_take (i := 29) (oi := ⟨some 50, _, _, _, _, _⟩) (v := ?vra30) rfl (by kernel_rfl) (by kernel_rfl) (by kernel_rfl) (fun _ _ _ h => h) (Or.inl ⟨by rfl, ?hyra30⟩) (by assumption) ?restra30
  case hyra30 => (intro V hSw; (try dsimp only at hSw); go_simp; first | done | (with_reducible rfl))
  try simp only [Act.put, List.setIfInBounds_toArray, List.set_cons_zero, List.set_cons_succ]
  refine wpAnyH_take (i := 30) (oi := ⟨some 51, _, _, _, _, _⟩) (v := ?vra31) rfl (by kernel_rfl) (by kernel_rfl) (by kernel_rfl) (fun _ _ _ h => h) (Or.inl ⟨by rfl, ?hyra31⟩) (by assumption) ?restra31
  case hyra31 => (intro V hSw; (try dsimp only at hSw); go_simp; first | done | (with_reducible rfl))
  try simp only [Act.put, List.setIfInBounds_toArray, List.set_cons_zero, List.set_cons_succ]
  refine wpAnyH_done (by kernel_rfl) ?_ _
  go_wp2_with fail
  go_ret
  exact ⟨rfl, (Only.refl [] w).drew⟩
set_option maxHeartbeats 8000000 in
theorem rsame_l (h : DS w d T S L M) (h' : DS w d' T S L' M') (hc : same16 M M' = true) : Calls Try.prog 18 #[ptr d, ptr d'] w fun e w' => e = .returned (.bool (sameS T S L M T S L' M')) ∧ Only [] w w' := by
  have RA := hide (fun (V : World) (o : Only [] w V) (t : Int) => rall_any (h.only0 o) t)
  have RB := hide (fun (V : World) (o : Only [] w V) (t : Int) => rall_any (h'.only0 o) t)
  have hlnA := h.len
  have hlnB := h'.len
  have HLA := hide (fun t : Int => all_len T S t L.length L rfl h.inv)
  have HLB := hide (fun t : Int => all_len T S t L'.length L' rfl h'.inv)
  have ht1 := h.t1
  have HC := hide hc
  obtain ⟨A, c, k0, k1, _⟩ := h.at
  obtain ⟨A', c', j0, j1, _⟩ := h'.at
  obtain ⟨xs, hx1, hx2, hx3⟩ := h.range
  obtain ⟨ys, hy1, hy2, hy3⟩ := h'.range
  have NE := fun W => neq58 xs.toArray ys.toArray M M' hx3 hy3 W
  have XA := hide hx2
  have XB := hide hy2
  have SA := hide (show (Try.prog.info? 58).map (·.size) = some xs.length by rw [hx1]; exact size58)
  have SB := hide (show (Try.prog.info? 58).map (·.size) = some ys.length by rw [hy1]; exact size58)
  have K := hide (fun V (o : Only [] w V) => (⟨o.keep0 k0, o.keep0 k1, o.keep0 j0, o.keep0 j1⟩ : _ ∧ _ ∧ _ ∧ _))
  have U58 := hide Try.underlying58
  clear hx1 hx2 hx3 hy1 hy2 hy3 h h'
  unfold ptr
  rw [hc] at NE
  clear hc
  unfold ptr at RA RB
  go_enter Try.func18, Try.ntmps18
  go_wp2_with fail
  refine wp_region_held_drew (S := (fun V => Only [] w V)) (by kernel_rfl) ((Only.refl [] w).drew) (fun hHeld => ?_)
  refine wpAnyH_take (i := 0) (oi := ⟨some 21, _, _, _, _, _⟩) (v := ?vrb1) rfl (by kernel_rfl) (by kernel_rfl) (by kernel_rfl) (fun _ _ _ h => h) (Or.inl ⟨by rfl, ?hyrb1⟩) (by assumption) ?restrb1
  case hyrb1 => (intro V hSw; (try dsimp only at hSw); go_simp; first | done | (with_reducible rfl))
  try simp only [Act.put, List.setIfInBounds_toArray, List.set_cons_zero, List.set_cons_succ]
  refine wpAnyH_take (i := 1) (oi := ⟨some 22, _, _, _, _, _⟩) (v := ?vrb2) rfl (by kernel_rfl) (by kernel_rfl) (by kernel_rfl) (fun _ _ _ h => h) (Or.inl ⟨by rfl, ?hyrb2⟩) (by assumption) ?restrb2
  case hyrb2 => (intro V hSw; (try dsimp only at hSw); go_simp; first | done | (with_reducible rfl))
  try simp only [Act.put, List.setIfInBounds_toArray, List.set_cons_zero, List.set_cons_succ]
  refine wpAnyH_take (i := 2) (oi := ⟨some 23, _, _, _, _, _⟩) (v := ?vrb3) rfl (by kernel_rfl) (by kernel_rfl) (by kernel_rfl) (fun _ _ _ h => h) (Or.inl ⟨by rfl, ?hyrb3⟩) (by assumption) ?restrb3
  case hyrb3 => (intro V hSw; (try dsimp only at hSw); go_simp; first | done | (with_reducible rfl))
  try simp only [Act.put, List.setIfInBounds_toArray, List.set_cons_zero, List.set_cons_succ]
  refine wpAnyH_take (i := 3) (oi := ⟨some 24, _, _, _, _, _⟩) (v := ?vrb4) rfl (by kernel_rfl) (by kernel_rfl) (by kernel_rfl) (fun _ _ _ h => h) (Or.inl ⟨by rfl, ?hyrb4⟩) (by assumption) ?restrb4
  case hyrb4 => (intro V hSw; (try dsimp only at hSw); obtain ⟨z1, z2, z3, z4⟩ := K.out V hSw; go_simp; first | done | (with_reducible rfl))
  try simp only [Act.put, List.setIfInBounds_toArray, List.set_cons_zero, List.set_cons_succ]
  refine wpAnyH_take (i := 4) (oi := ⟨some 25, _, _, _, _, _⟩) (v := ?vrb5) rfl (by kernel_rfl) (by kernel_rfl) (by kernel_rfl) (fun _ _ _ h => h) (Or.inl ⟨by rfl, ?hyrb5⟩) (by assumption) ?restrb5
  case hyrb5 => (intro V hSw; (try dsimp only at hSw); go_simp; first | done | (with_reducible rfl))
  try simp only [Act.put, List.setIfInBounds_toArray, List.set_cons_zero, List.set_cons_succ]
  refine wpAnyH_take (i := 5) (oi := ⟨some 26, _, _, _, _, _⟩) (v := ?vrb6) rfl (by kernel_rfl) (by kernel_rfl) (by kernel_rfl) (fun _ _ _ h => h) (Or.inl ⟨by rfl, ?hyrb6⟩) (by assumption) ?restrb6
  case hyrb6 => (intro V hSw; (try dsimp only at hSw); go_simp; first | done | (with_reducible rfl))
  try simp only [Act.put, List.setIfInBounds_toArray, List.set_cons_zero, List.set_cons_succ]
  refine wpAnyH_take (i := 6) (oi := ⟨some 27, _, _, _, _, _⟩) (v := ?vrb7) rfl (by kernel_rfl) (by kernel_rfl) (by kernel_rfl) (fun _ _ _ h => h) (Or.inl ⟨by rfl, ?hyrb7⟩) (by assumption) ?restrb7
  case hyrb7 => (intro V hSw; (try dsimp only at hSw); go_simp; first | done | (with_reducible rfl))
  try simp only [Act.put, List.setIfInBounds_toArray, List.set_cons_zero, List.set_cons_succ]
  refine wpAnyH_take (i := 7) (oi := ⟨some 28, _, _, _, _, _⟩) (v := ?vrb8) rfl (by kernel_rfl) (by kernel_rfl) (by kernel_rfl) (fun _ _ _ h => h) (Or.inl ⟨by rfl, ?hyrb8⟩) (by assumption) ?restrb8
  case hyrb8 => (intro V hSw; (try dsimp only at hSw); obtain ⟨z1, z2, z3, z4⟩ := K.out V hSw; go_simp; first | done | (with_reducible rfl))
  try simp only [Act.put, List.setIfInBounds_toArray, List.set_cons_zero, List.set_cons_succ]
  refine wpAnyH_take (i := 8) (oi := ⟨some 29, _, _, _, _, _⟩) (v := ?vrb9) rfl (by kernel_rfl) (by kernel_rfl) (by kernel_rfl) (fun _ _ _ h => h) (Or.inl ⟨by rfl, ?hyrb9⟩) (by assumption) ?restrb9
  case hyrb9 => (intro V hSw; (try dsimp only at hSw); go_simp; first | done | (with_reducible rfl))
  try simp only [Act.put, List.setIfInBounds_toArray, List.set_cons_zero, List.set_cons_succ]
  refine wpAnyH_take (i := 9) (oi := ⟨some 30, _, _, _, _, _⟩) (v := ?vrb10) rfl (by kernel_rfl) (by kernel_rfl) (by kernel_rfl) (fun _ _ _ h => h) (Or.inl ⟨by rfl, ?hyrb10⟩) (by assumption) ?restrb10
  case hyrb10 => (intro V hSw; (try dsimp only at hSw); go_simp; first | done | (with_reducible rfl))
  try simp only [Act.put, List.setIfInBounds_toArray, List.set_cons_zero, List.set_cons_succ]
  refine wpAnyH_take (i := 10) (oi := ⟨some 31, _, _, _, _, _⟩) (v := ?vrb11) rfl (by kernel_rfl) (by kernel_rfl) (by kernel_rfl) (fun _ _ _ h => h) (Or.inl ⟨by rfl, ?hyrb11⟩) (by assumption) ?restrb11
  case hyrb11 => (intro V hSw; (try dsimp only at hSw); go_simp; first | done | (with_reducible rfl))
  try simp only [Act.put, List.setIfInBounds_toArray, List.set_cons_zero, List.set_cons_succ]
  refine wpAnyH_take (i := 11) (oi := ⟨some 32, _, _, _, _, _⟩) (v := ?vrb12) rfl (by kernel_rfl) (by kernel_rfl) (by kernel_rfl) (fun _ _ _ h => h) (Or.inl ⟨by rfl, ?hyrb12⟩) (by assumption) ?restrb12
  case hyrb12 => (intro V hSw; (try dsimp only at hSw); go_simp; first | done | (with_reducible rfl))
  try simp only [Act.put, List.setIfInBounds_toArray, List.set_cons_zero, List.set_cons_succ]
  refine wpAnyH_take (i := 12) (oi := ⟨some 33, _, _, _, _, _⟩) (v := ?vrb13) rfl (by kernel_rfl) (by kernel_rfl) (by kernel_rfl) (fun _ _ _ h => h) (Or.inl ⟨by rfl, ?hyrb13⟩) (by assumption) ?restrb13
  case hyrb13 => (intro V hSw; (try dsimp only at hSw); go_simp; first | done | (with_reducible rfl))
  try simp only [Act.put, List.setIfInBounds_toArray, List.set_cons_zero, List.set_cons_succ]
  refine wpAnyH_take (i := 13) (oi := ⟨some 34, _, _, _, _, _⟩) (v := ?vrb14) rfl (by kernel_rfl) (by kernel_rfl) (by kernel_rfl) (fun _ _ _ h => h) (Or.inl ⟨by rfl, ?hyrb14⟩) (by assumption) ?restrb14
  case hyrb14 => (intro V hSw; (try dsimp only at hSw); obtain ⟨z1, z2, z3, z4⟩ := K.out V hSw; go_simp; first | done | (with_reducible rfl))
  try simp only [Act.put, List.setIfInBounds_toArray, List.set_cons_zero, List.set_cons_succ]
  refine wpAnyH_take (i := 14) (oi := ⟨some 35, _, _, _, _, _⟩) (v := ?vrb15) rfl (by kernel_rfl) (by kernel_rfl) (by kernel_rfl) (fun _ _ _ h => h) (Or.inl ⟨by rfl, ?hyrb15⟩) (by assumption) ?restrb15
  case hyrb15 => (intro V hSw; (try dsimp only at hSw); go_simp; first | done | (with_reducible rfl))
  try simp only [Act.put, List.setIfInBounds_toArray, List.set_cons_zero, List.set_cons_succ]
  refine wpAnyH_take (i := 15) (oi := ⟨some 36, _, _, _, _, _⟩) (v := ?vrb16) rfl (by kernel_rfl) (by kernel_rfl) (by kernel_rfl) (fun _ _ _ h => h) (Or.inl ⟨by rfl, ?hyrb16⟩) (by assumption) ?restrb16
  case hyrb16 => (intro V hSw; (try dsimp only at hSw); go_simp; first | done | (with_reducible rfl))
  try simp only [Act.put, List.setIfInBounds_toArray, List.set_cons_zero, List.set_cons_succ]
  refine wpAnyH_take (i := 16) (oi := ⟨some 37, _, _, _, _, _⟩) (v := ?vrb17) rfl (by kernel_rfl) (by kernel_rfl) (by kernel_rfl) (fun _ _ _ h => h) (Or.inl ⟨by rfl, ?hyrb17⟩) (by assumption) ?restrb17
  case hyrb17 => (intro V hSw; (try dsimp only at hSw); go_simp; first | done | (with_reducible rfl))
  try simp only [Act.put, List.setIfInBounds_toArray, List.set_cons_zero, List.set_cons_succ]
  refine wpAnyH_take (i := 17) (oi := ⟨some 38, _, _, _, _, _⟩) (v := ?vrb18) rfl (by kernel_rfl) (by kernel_rfl) (by kernel_rfl) (fun _ _ _ h => h) (Or.inl ⟨by rfl, ?hyrb18⟩) (by assumption) ?restrb18
  case hyrb18 => (intro V hSw; (try dsimp only at hSw); obtain ⟨z1, z2, z3, z4⟩ := K.out V hSw; go_simp; first | done | (with_reducible rfl))
  try simp only [Act.put, List.setIfInBounds_toArray, List.set_cons_zero, List.set_cons_succ]
  refine wpAnyH_take (i := 18) (oi := ⟨some 39, _, _, _, _, _⟩) (v := ?vrb19) rfl (by kernel_rfl) (by kernel_rfl) (by kernel_rfl) (fun _ _ _ h => h) (Or.inl ⟨by rfl, ?hyrb19⟩) (by assumption) ?restrb19
  case hyrb19 => (intro V hSw; (try dsimp only at hSw); go_simp; first | done | (with_reducible rfl))
  try simp only [Act.put, List.setIfInBounds_toArray, List.set_cons_zero, List.set_cons_succ]
  refine wpAnyH_take (i := 19) (oi := ⟨some 40, _, _, _, _, _⟩) (v := ?vrb20) rfl (by kernel_rfl) (by kernel_rfl) (by kernel_rfl) (fun _ _ _ h => h) (Or.inl ⟨by rfl, ?hyrb20⟩) (by assumption) ?restrb20
  case hyrb20 => (intro V hSw; (try dsimp only at hSw); go_simp; first | done | (with_reducible rfl))
  try simp only [Act.put, List.setIfInBounds_toArray, List.set_cons_zero, List.set_cons_succ]
  refine wpAnyH_take (i := 20) (oi := ⟨some 41, _, _, _, _, _⟩) (v := ?vrb21) rfl (by kernel_rfl) (by kernel_rfl) (by kernel_rfl) (fun _ _ _ h => h) (Or.inl ⟨by rfl, ?hyrb21⟩) (by assumption) ?restrb21
  case hyrb21 => (intro V hSw; (try dsimp only at hSw); go_simp; first | done | (with_reducible rfl))
  try simp only [Act.put, List.setIfInBounds_toArray, List.set_cons_zero, List.set_cons_succ]
  refine wpAnyH_take (i := 21) (oi := ⟨some 42, _, _, _, _, _⟩) (v := ?vrb22) rfl (by kernel_rfl) (by kernel_rfl) (by kernel_rfl) (fun _ _ _ h => h) (Or.inl ⟨by rfl, ?hyrb22⟩) (by assumption) ?restrb22
  case hyrb22 => (intro V hSw; (try dsimp only at hSw); go_simp; first | done | (with_reducible rfl))
  try simp only [Act.put, List.setIfInBounds_toArray, List.set_cons_zero, List.set_cons_succ]
  refine wpAnyH_take (i := 22) (oi := ⟨some 43, _, _, _, _, _⟩) (v := ?vrb23) rfl (by kernel_rfl) (by kernel_rfl) (by kernel_rfl) (fun _ _ _ h => h) (Or.inl ⟨by rfl, ?hyrb23⟩) (by assumption) ?restrb23
  case hyrb23 => (intro V hSw; (try dsimp only at hSw); go_simp; first | done | (with_reducible rfl))
  try simp only [Act.put, List.setIfInBounds_toArray, List.set_cons_zero, List.set_cons_succ]
  refine wpAnyH_take (i := 23) (oi := ⟨some 44, _, _, _, _, _⟩) (v := ?vrb24) rfl (by kernel_rfl) (by kernel_rfl) (by kernel_rfl) (fun _ _ _ h => h) (Or.inl ⟨by rfl, ?hyrb24⟩) (by assumption) ?restrb24
  case hyrb24 => (intro V hSw; (try dsimp only at hSw); go_simp; first | done | (with_reducible rfl))
  try simp only [Act.put, List.setIfInBounds_toArray, List.set_cons_zero, List.set_cons_succ]
  refine' wpAnyH_take (i := 24) (oi := ⟨some 45, _, _, _, _, _⟩) (v := _) rfl (by kernel_rfl) (by kernel_rfl) (by kernel_rfl) (fun _ _ _ h => h) (yieldsIf_load_mid (by rfl) _ _ rfl _ _ rfl _ _ (fun V hSw => XA.out V hSw) U58.out rfl SA.out) (by assumption) ?restrb25
  try simp only [Act.put, List.setIfInBounds_toArray, List.set_cons_zero, List.set_cons_succ]
  refine wpAnyH_take (i := 25) (oi := ⟨some 46, _, _, _, _, _⟩) (v := ?vrb26) rfl (by kernel_rfl) (by kernel_rfl) (by kernel_rfl) (fun _ _ _ h => h) (Or.inl ⟨by rfl, ?hyrb26⟩) (by assumption) ?restrb26
  case hyrb26 => (intro V hSw; (try dsimp only at hSw); go_simp; first | done | (with_reducible rfl))
  try simp only [Act.put, List.setIfInBounds_toArray, List.set_cons_zero, List.set_cons_succ]
  refine wpAnyH_take (i := 26) (oi := ⟨some 47, _, _, _, _, _⟩) (v := ?vrb27) rfl (by kernel_rfl) (by kernel_rfl) (by kernel_rfl) (fun _ _ _ h => h) (Or.inl ⟨by rfl, ?hyrb27⟩) (by assumption) ?restrb27
  case hyrb27 => (intro V hSw; (try dsimp only at hSw); go_simp; first | done | (with_reducible rfl))
  try simp only [Act.put, List.setIfInBounds_toArray, List.set_cons_zero, List.set_cons_succ]
  refine wpAnyH_take (i := 27) (oi := ⟨some 48, _, _, _, _, _⟩) (v := ?vrb28) rfl (by kernel_rfl) (by kernel_rfl) (by kernel_rfl) (fun _ _ _ h => h) (Or.inl ⟨by rfl, ?hyrb28⟩) (by assumption) ?restrb28
  case hyrb28 => (intro V hSw; (try dsimp only at hSw); go_simp; first | done | (with_reducible rfl))
  try simp only [Act.put, List.setIfInBounds_toArray, List.set_cons_zero, List.set_cons_succ]
  refine' wpAnyH_take (i := 28) (oi := ⟨some 49, _, _, _, _, _⟩) (v := _) rfl (by kernel_rfl) (by kernel_rfl) (by kernel_rfl) (fun _ _ _ h => h) (yieldsIf_load_mid (by rfl) _ _ rfl _ _ rfl _ _ (fun V hSw => XB.out V hSw) U58.out rfl SB.out) (by assumption) ?restrb29
  try simp only [Act.put, List.setIfInBounds_toArray, List.set_cons_zero, List.set_cons_succ]
  refine wpAnyH_take (i := 29) (oi := ⟨some 50, _, _, _, _, _⟩) (v := ?vrb30) rfl (by kernel_rfl) (by kernel_rfl) (by kernel_rfl) (fun _ _ _ h => h) (Or.inl ⟨by rfl, ?hyrb30⟩) (by assumption) ?restrb30
  case hyrb30 => (intro V hSw; (try dsimp only at hSw); go_simp; first | done | (with_reducible rfl))
  try simp only [Act.put, List.setIfInBounds_toArray, List.set_cons_zero, List.set_cons_succ]
  refine wpAnyH_take (i := 30) (oi := ⟨some 51, _, _, _, _, _⟩) (v := ?vrb31) rfl (by kernel_rfl) (by kernel_rfl) (by kernel_rfl) (fun _ _ _ h => h) (Or.inl ⟨by rfl, ?hyrb31⟩) (by assumption) ?restrb31
  case hyrb31 => (intro V hSw; (try dsimp only at hSw); go_simp; first | done | (with_reducible rfl))
  try simp only [Act.put, List.setIfInBounds_toArray, List.set_cons_zero, List.set_cons_succ]
  refine wpAnyH_done (by kernel_rfl) ?_ _
  clear NE XA XB
  go_wp2_with fail
  go_loopw [5] (fun vt wr => ∃ t : Nat, t ≤ T ∧ vt = .int .i64 t ∧ Hid (∀ u, u < t → allOf L u = allOf L' u) ∧ Hid (Only [] w wr)) (fun vt _ => T - (intOf vt).toNat)
  case atStart => exact ⟨0, Nat.zero_le _, rfl, hide (fun u hu => by omega), hide (Only.refl [] w).drew⟩
  case round =>
    obtain ⟨t, htT, rfl, hall, hO⟩ := hrel
    have k0r := hO.out.keep0 k0
    by_cases hlt : t < T
    · have hin : inT T (t : Int) := ⟨by omega, by omega⟩
      have eA : allI T L (t : Int) = allOf L t := by unfold allI; rw [if_pos hin]; rfl
      have eB : allI T L' (t : Int) = allOf L' t := by unfold allI; rw [if_pos hin]; rfl
      have R1 := RA.out wr hO.out (t : Int)
      have i0 : (t : Int) < (T : Int) := by omega
      have lA := HLA.out (t : Int)
      have lB := HLB.out (t : Int)
      rw [eA] at R1 lA
      rw [eB] at lB
      have R2 := fun V (o : Only [] w V) => RB.out V o (t : Int)
      rw [eB] at R2
      have R1 := hide R1
      have R2 := hide R2
      obtain ⟨X, hX⟩ : ∃ X, allOf L t = X := ⟨_, rfl⟩
      obtain ⟨Y, hY⟩ : ∃ Y, allOf L' t = Y := ⟨_, rfl⟩
      rw [hX] at R1 lA
      rw [hY] at R2 lB
      have HX := hide hX
      have HY := hide hY
      clear eA eB hX hY hin
      by_cases hl : X.length = Y.length
      · have dl : ((X.length : Int) != (Y.length : Int)) = false := by rw [hl]; simp
        by_cases hxy : X = Y
        · have EQ := hide hxy
          have HN := hide hl
          have dl2 : (X.length != Y.length) = false := by rw [hl]; simp
          have le1 : X.length ≤ Y.length := by omega
          clear hxy hl
          go_wp2_with (first
            | (go_at_call 36; (with_reducible refine R1.out.mono ?_); rintro e w2 ⟨⟨A1, c1, rfl, r1⟩, o2⟩; have OW2 := hide (hO.out.trans0 o2); have RW1 := hide r1; clear r1 o2)
            | (go_at_call 36; (with_reducible refine (R2.out _ OW2.out).mono ?_); rintro e w3 ⟨⟨A2, c2, rfl, r2⟩, o3⟩; have OW3 := hide (OW2.out.trans0 o3); have RW2 := hide r2; have RW1 := hide (own_only' RW1.out o3 (by simp)); clear r2 o3))
          go_loopw [8] (fun vi wr => ∃ i : Nat, i ≤ X.length ∧ vi = .int .i64 i ∧ Hid (Only [] w3 wr)) (fun vi _ => X.length - (intOf vi).toNat)
          case atStart => exact ⟨0, Nat.zero_le _, rfl, hide (Only.refl _ _)⟩
          case round =>
            obtain ⟨i, hi, rfl, hOi⟩ := hrel
            by_cases hli : i < X.length
            · obtain ⟨x, hx⟩ : ∃ x, X[i]? = some x := ⟨_, List.getElem?_eq_getElem hli⟩
              obtain ⟨g1, rfl, a0, a1⟩ := GV_cell (own_only' RW1.out hOi.out (by simp)) hx
              obtain ⟨g2, rfl, b0, b1⟩ := GV_cell (own_only' RW2.out hOi.out (by simp)) (EQ.out ▸ hx)
              have z := fun W => neq36 (x.1 : Int) (x.1 : Int) x.2 x.2 W
              simp only [BEq.rfl, Bool.and_self, Bool.not_true] at z
              have j2 : (0 : Int) ≤ (i : Int) := by omega
              have j3 : (i : Int) < (X.length : Int) := by omega
              have j4 : (i : Int) < (Y.length : Int) := by omega
              clear hx
              go_wp2_with fail
              go_quiet (fail)
              go_wp2_with fail
              go_roundw
              case rel => exact ⟨i + 1, by omega, by go_num, hide (hOi.out.drewN _)⟩
              case measure => simp [intOf]; omega
            · obtain hiX : i = X.length := by omega
              have d8 : decide ((i : Int) < (X.length : Int)) = false := decide_eq_false (by omega)
              have d9 : decide (i < X.length) = false := decide_eq_false (by omega)
              clear hiX
              go_wp2_with fail
              go_roundw
              case rel => exact ⟨t + 1, by omega, by go_num, hide (fun u hu => by
                rcases Nat.lt_or_ge u t with h | h
                · exact hall.out u h
                · obtain rfl : u = t := by omega
                  rw [HX.out, HY.out]; exact EQ.out), hide (OW3.out.trans0 hOi.out)⟩
              case measure => simp [intOf]; omega
        · obtain ⟨q, x, y, hqx, hqy, hne, htk⟩ := list_differ hl hxy
          have HQX := hide hqx
          have HQY := hide hqy
          have HNE := hide hne
          have HTK := hide htk
          have hq := (List.getElem?_eq_some_iff.1 hqx).1
          have HXY := hide hxy
          have dl2 : (X.length != Y.length) = false := by rw [hl]; simp
          have le1 : X.length ≤ Y.length := by omega
          clear hxy hl hqx hqy hne htk
          go_wp2_with (first
            | (go_at_call 36; (with_reducible refine R1.out.mono ?_); rintro e w2 ⟨⟨A1, c1, rfl, r1⟩, o2⟩; have OW2 := hide (hO.out.trans0 o2); have RW1 := hide r1; clear r1 o2)
            | (go_at_call 36; (with_reducible refine (R2.out _ OW2.out).mono ?_); rintro e w3 ⟨⟨A2, c2, rfl, r2⟩, o3⟩; have OW3 := hide (OW2.out.trans0 o3); have RW2 := hide r2; have RW1 := hide (own_only' RW1.out o3 (by simp)); clear r2 o3))
          go_loopw [8] (fun vi wr => ∃ i : Nat, i ≤ q ∧ vi = .int .i64 i ∧ Hid (Only [] w3 wr)) (fun vi _ => X.length - (intOf vi).toNat)
          case atStart => exact ⟨0, Nat.zero_le _, rfl, hide (Only.refl _ _)⟩
          case round =>
            obtain ⟨i, hi, rfl, hOi⟩ := hrel
            have j2 : (0 : Int) ≤ (i : Int) := by omega
            have j3 : (i : Int) < (X.length : Int) := by omega
            have j4 : (i : Int) < (Y.length : Int) := by omega
            by_cases hli : i < q
            · obtain ⟨x', hx'⟩ : ∃ x', X[i]? = some x' := ⟨_, List.getElem?_eq_getElem (by omega)⟩
              have hy' : Y[i]? = some x' := by
                have h1 : (X.take q)[i]? = some x' := by rw [List.getElem?_take, if_pos hli]; exact hx'
                rw [HTK.out, List.getElem?_take, if_pos hli] at h1
                exact h1
              obtain ⟨g1, rfl, a0, a1⟩ := GV_cell (own_only' RW1.out hOi.out (by simp)) hx'
              obtain ⟨g2, rfl, b0, b1⟩ := GV_cell (own_only' RW2.out hOi.out (by simp)) hy'
              have z := fun W => neq36 (x'.1 : Int) (x'.1 : Int) x'.2 x'.2 W
              simp only [BEq.rfl, Bool.and_self, Bool.not_true] at z
              clear hx' hy'
              go_wp2_with fail
              go_quiet (fail)
              go_wp2_with fail
              go_roundw
              case rel => exact ⟨i + 1, by omega, by go_num, hide (hOi.out.drewN _)⟩
              case measure => simp [intOf]; omega
            · obtain rfl : i = q := by omega
              obtain ⟨g1, rfl, a0, a1⟩ := GV_cell (own_only' RW1.out hOi.out (by simp)) HQX.out
              obtain ⟨g2, rfl, b0, b1⟩ := GV_cell (own_only' RW2.out hOi.out (by simp)) HQY.out
              have z := fun W => neq36 (x.1 : Int) (y.1 : Int) x.2 y.2 W
              have hb : ((x.1 : Int) == (y.1 : Int) && x.2 == y.2) = false := by
                rw [Bool.and_eq_false_iff, beq_eq_false_iff_ne, beq_eq_false_iff_ne]
                by_cases e : x.1 = y.1
                · exact .inr (fun e2 => HNE.out (Prod.ext e e2))
                · exact .inl (by omega)
              rw [hb] at z
              simp only [Bool.not_false] at z
              clear hb
              have HF := hide (show sameS T S L M T S L' M' = false by
                cases hs : sameS T S L M T S L' M'
                · rfl
                · have := (sameS_true.1 hs).2.2.2 t hlt
                  rw [HX.out, HY.out] at this
                  exact absurd this HXY.out)
              go_wp2_with fail
              go_quiet (fail)
              go_wp2_with fail
              go_ret
              exact ⟨by rw [HF.out]; rfl, (OW3.out.trans0 hOi.out).drewN _⟩
      · have dl : ((X.length : Int) != (Y.length : Int)) = true := by simp; omega
        have HF := hide (show sameS T S L M T S L' M' = false by
          cases hs : sameS T S L M T S L' M'
          · rfl
          · have := (sameS_true.1 hs).2.2.2 t hlt
            rw [HX.out, HY.out] at this
            rw [this] at hl
            exact absurd rfl hl)
        have dl2 : (X.length != Y.length) = true := by simpa using hl
        clear hl
        go_wp2_with (first
            | (go_at_call 36; (with_reducible refine R1.out.mono ?_); rintro e w2 ⟨⟨A1, c1, rfl, r1⟩, o2⟩; have OW2 := hide (hO.out.trans0 o2); have RW1 := hide r1; clear r1 o2)
            | (go_at_call 36; (with_reducible refine (R2.out _ OW2.out).mono ?_); rintro e w3 ⟨⟨A2, c2, rfl, r2⟩, o3⟩; have OW3 := hide (OW2.out.trans0 o3); have RW2 := hide r2; have RW1 := hide (own_only' RW1.out o3 (by simp)); clear r2 o3))
        go_ret
        exact ⟨by rw [HF.out]; rfl, OW3.out⟩
    · obtain rfl : t = T := by omega
      have HT := hide (show sameS t S L M t S L' M' = true from sameS_true.2 ⟨rfl, rfl, HC.out, hall.out⟩)
      go_wp2_with fail
      go_ret
      exact ⟨by rw [HT.out]; rfl, hO.out⟩
end
end Go.Proofs.Ytnmlcijkggfhmaa
