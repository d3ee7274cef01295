/- More words for memory: appending to an owned slice, its address written out. No condition. -/
import Derived.Test.YthlaoanfoimkfaaDoorBase
import Derived.Deep.AppendLies
namespace Go.Proofs.YthlaoanfoimkfaaDoor
open Go.RowKit
set_option linter.unusedVariables false
set_option linter.all false

def blkOf : Option Addr → List Nat
  | none => []
  | some a => [a.block]

theorem own_ge {w : World} {base size n c : Nat} {e : TypeId} {A : Option Addr} {xs : List Value} (h : w.ownsRow base e size (.slice A n c) n xs) : ∀ k ∈ blkOf A, base ≤ k ∧ k < w.heap.size := by
  intro k hk
  rcases A with _ | a
  · simp [blkOf] at hk
  · simp only [blkOf, List.mem_singleton] at hk
    subst hk
    exact h.lt a.block rfl
theorem own_only' {w w' : World} {base size n c : Nat} {e : TypeId} {A : Option Addr} {xs : List Value} {S : List Nat} (h : w.ownsRow base e size (.slice A n c) n xs) (ho : Only S w w') (hn : ∀ k ∈ blkOf A, k ∉ S) : w'.ownsRow base e size (.slice A n c) n xs :=
  own_only h ho fun g hg => by
    rcases A with _ | a
    · simp [Value.ownBlock] at hg
    · simp only [Value.ownBlock, Option.some.injEq] at hg
      subst hg
      exact hn _ (by simp [blkOf])
theorem own_ne {w : World} {base size n c g : Nat} {e t : TypeId} {A : Option Addr} {xs : List Value} {cs : Array Value} (h : w.ownsRow base e size (.slice A n c) n xs) (hg : Blk w g t cs) (hne : e ≠ t) : g ∉ blkOf A := by
  rcases A with _ | a
  · simp [blkOf]
  · have := own_blk_ne h hg hne
    simp only [Value.ownBlock, ne_eq, Option.some.injEq] at this
    simp only [blkOf, List.mem_singleton]
    exact fun h => this h.symm
theorem own_cap {w : World} {base size n c : Nat} {e : TypeId} {A : Option Addr} {xs : List Value} (h : w.ownsRow base e size (.slice A n c) n xs) : n ≤ c ∧ c ≤ maxLen := by
  rcases h.2 with ⟨hv, hn⟩ | ⟨g, cap, cur, hv, _, _, hn, hm, _⟩
  · simp only [Value.slice.injEq] at hv
    unfold maxLen
    omega
  · simp only [Value.slice.injEq] at hv
    omega
/-- The cell of an owned slice's element, its address as an index comes to it. -/
theorem own_cell {w : World} {base size n c : Nat} {e : TypeId} {A : Option Addr} {xs : List Value} (h : w.ownsRow base e size (.slice A n c) n xs) (hn : 0 < n) : ∃ g, A = some ⟨g, 0, none⟩ ∧ (∀ j, j < n * size → w.cell? ⟨g, j, none⟩ = xs[j]?) ∧ ∀ j, w.frozen? ⟨g, j, none⟩ = false := by
  rcases h.2 with ⟨hv, h0⟩ | ⟨g, cap, cur, hv, _⟩
  · omega
  · simp only [Value.slice.injEq] at hv
    obtain ⟨rfl, _, rfl⟩ := hv
    exact ⟨g, rfl, fun j hj => h.cellAt j hj, fun j => h.frozenAt j⟩

section
variable {P : Program} (w : World)
theorem append_at (base : Nat) (t ty e : TypeId) (i : TypeInfo) (z : Value) (size bytes : Nat) (ht : P.underlying t = some (.slice e)) (hi : P.info? e = some i) (hz : i.zero = some z)
    (hsize : i.size = size) (hby : i.bytes = bytes) (hzs : z.cells.size = size) (hsz : 0 < size)
    (A : Option Addr) (n c : Nat) (xs : List Value) (hown : w.ownsRow base e size (.slice A n c) n xs)
    (ad : Addr) (m c' : Nat) (news : List Value) (hl : news.length = m * size) (hnews : ∀ j u, news[j]? = some u → w.cell? (ad.add j) = some u) (h1 : ∀ u ∈ news, u.oneCell' = true) (hm : 0 < m ∨ A ≠ none)
    (h63 : n + m ≤ maxLen) (hbytes : (n + m) * bytes ≤ 140737488355328) (hbase : base ≤ w.heap.size) :
    ∃ g' cap' w', (Builtin.append_ #[t, t] ty #[.slice A n c, .slice (some ad) m c']).run P w = .ok (.slice (some ⟨g', 0, none⟩) (n + m) cap') w' ∧ w'.ownsRow base e size (.slice (some ⟨g', 0, none⟩) (n + m) cap') (n + m) (xs ++ news) ∧
      Only (blkOf A) w w' ∧ (g' ∈ blkOf A ∨ g' = w.heap.size) := by
  obtain ⟨v', w', hrun, h2, h3, h4, h5⟩ := run_append_own_at (P := P) w base t ty e i z size bytes ht hi hz hsize hby hzs hsz _ n xs hown ad m c' news hl hnews h1 h63 hbytes hbase
  obtain ⟨g, cap, hv⟩ : ∃ g cap, v' = .slice (some ⟨g, 0, none⟩) (n + m) cap := by
    rcases h2.2 with ⟨hv, hn⟩ | ⟨g, cap, cur, hv, _⟩
    · have := h4.1 hv
      simp only [Value.slice.injEq] at this
      rcases hm with hm | hm
      · omega
      · exact absurd this.1.1 hm
    · exact ⟨g, cap, hv⟩
  subst hv
  refine ⟨g, cap, w', hrun, h2, (Only.refl _ w).grown h3 (fun k hk => .inl ?_), ?_⟩
  · rcases A with _ | a
    · simp [Value.ownBlock] at hk
    · simp only [Value.ownBlock, Option.some.injEq] at hk
      simp [blkOf, hk]
  · rcases h5 with h5 | h5
    · rcases A with _ | a
      · simp [Value.ownBlock] at h5
      · simp only [Value.ownBlock, Option.some.injEq] at h5
        exact .inl (by simp [blkOf, h5])
    · simp only [Value.ownBlock, Option.some.injEq] at h5
      exact .inr h5
end

section
variable {P : Program} {w : World} {ops : Array Oper} {rest : List Oper} {o : Oper} {a : Act} {Q : Exit → Act → World → Prop} {K : Act → World → Prop} {E : Prop}
theorem wp_append_at (s x : Operand) (t : TypeId) (ho : o.op = .call { callee := .builtin .append, args := #[s, x], argTypes := #[t, t] })
    (base : Nat) (e : TypeId) (i : TypeInfo) (z : Value) (size bytes : Nat) (ht : P.underlying t = some (.slice e)) (hi : P.info? e = some i) (hz : i.zero = some z)
    (hsize : i.size = size) (hby : i.bytes = bytes) (hzs : z.cells.size = size) (hsz : 0 < size)
    (A : Option Addr) (n c : Nat) (xs : List Value) (hs : a.eval s = .slice A n c) (hown : w.ownsRow base e size (.slice A n c) n xs)
    (ad : Addr) (m c' : Nat) (news : List Value) (hx : a.eval x = .slice (some ad) m c') (hl : news.length = m * size) (hnews : ∀ j u, news[j]? = some u → w.cell? (ad.add j) = some u) (h1 : ∀ u ∈ news, u.oneCell' = true) (hm : 0 < m ∨ A ≠ none)
    (h63 : n + m ≤ maxLen) (hbytes : (n + m) * bytes ≤ 140737488355328) (hbase : base ≤ w.heap.size)
    (h : ∀ g' cap' w', w'.ownsRow base e size (.slice (some ⟨g', 0, none⟩) (n + m) cap') (n + m) (xs ++ news) → Only (blkOf A) w w' → (g' ∈ blkOf A ∨ g' = w.heap.size) → K (a.put o.dst (.slice (some ⟨g', 0, none⟩) (n + m) cap')) w') : o.wp P a w K Q := by
  obtain ⟨g', cap', w', hrun, h2, h3, h4⟩ := append_at (P := P) w base t o.type e i z size bytes ht hi hz hsize hby hzs hsz A n c xs hown ad m c' news hl hnews h1 hm h63 hbytes hbase
  unfold Oper.wp execOp
  simp only [ho, resolve, invoke, builtin, Sem.run_bind, Sem.run_pure, Result.andThen_ok, List.map_toArray, List.map_cons, List.map_nil, hs, hx, hrun]
  exact h g' cap' w' h2 h3 h4

theorem wpList_append_at (hgd : o.guard = none) (s x : Operand) (t : TypeId) (ho : o.op = .call { callee := .builtin .append, args := #[s, x], argTypes := #[t, t] })
    (base : Nat) (e : TypeId) (i : TypeInfo) (z : Value) (size bytes : Nat) (ht : P.underlying t = some (.slice e)) (hi : P.info? e = some i) (hz : i.zero = some z)
    (hsize : i.size = size) (hby : i.bytes = bytes) (hzs : z.cells.size = size) (hsz : 0 < size)
    (A : Option Addr) (n c : Nat) (xs : List Value) (hs : a.eval s = .slice A n c) (hown : w.ownsRow base e size (.slice A n c) n xs)
    (ad : Addr) (m c' : Nat) (news : List Value) (hx : a.eval x = .slice (some ad) m c') (hl : news.length = m * size) (hnews : ∀ j u, news[j]? = some u → w.cell? (ad.add j) = some u) (h1 : ∀ u ∈ news, u.oneCell' = true) (hm : 0 < m ∨ A ≠ none)
    (h63 : n + m ≤ maxLen) (hbytes : (n + m) * bytes ≤ 140737488355328) (hbase : base ≤ w.heap.size)
    (h : ∀ g' cap' w', w'.ownsRow base e size (.slice (some ⟨g', 0, none⟩) (n + m) cap') (n + m) (xs ++ news) → Only (blkOf A) w w' → (g' ∈ blkOf A ∨ g' = w.heap.size) → wpList P ops Q rest (a.put o.dst (.slice (some ⟨g', 0, none⟩) (n + m) cap')) w') : wpList P ops Q (o :: rest) a w :=
  wpList_plain hgd fun _ hK => wp_append_at s x t ho base e i z size bytes ht hi hz hsize hby hzs hsz A n c xs hs hown ad m c' news hx hl hnews h1 hm h63 hbytes hbase fun g' cap' w' h2 h3 h4 => hK _ _ (h g' cap' w' h2 h3 h4)

theorem step_append_at (hgd : o.guard = none) (s x : Operand) (t : TypeId) (ho : o.op = .call { callee := .builtin .append, args := #[s, x], argTypes := #[t, t] })
    (base : Nat) (e : TypeId) (i : TypeInfo) (z : Value) (size bytes : Nat) (ht : P.underlying t = some (.slice e)) (hi : P.info? e = some i) (hz : i.zero = some z)
    (hsize : i.size = size) (hby : i.bytes = bytes) (hzs : z.cells.size = size) (hsz : 0 < size)
    (A : Option Addr) (n c : Nat) (xs : List Value) (hs : a.eval s = .slice A n c) (hown : w.ownsRow base e size (.slice A n c) n xs)
    (ad : Addr) (m c' : Nat) (news : List Value) (hx : a.eval x = .slice (some ad) m c') (hl : news.length = m * size) (hnews : ∀ j u, news[j]? = some u → w.cell? (ad.add j) = some u) (h1 : ∀ u ∈ news, u.oneCell' = true) (hm : 0 < m ∨ A ≠ none)
    (h63 : n + m ≤ maxLen) (hbytes : (n + m) * bytes ≤ 140737488355328) (hbase : base ≤ w.heap.size)
    (h : ∀ g' cap' w', w'.ownsRow base e size (.slice (some ⟨g', 0, none⟩) (n + m) cap') (n + m) (xs ++ news) → Only (blkOf A) w w' → (g' ∈ blkOf A ∨ g' = w.heap.size) → K (a.put o.dst (.slice (some ⟨g', 0, none⟩) (n + m) cap')) w') :
    if Region.wanted o (yielded ops a.tmps) = true then Oper.wp P o a w K Q else E := by
  rw [if_pos (by simp [Region.wanted, hgd])]
  exact wp_append_at s x t ho base e i z size bytes ht hi hz hsize hby hzs hsz A n c xs hs hown ad m c' news hx hl hnews h1 hm h63 hbytes hbase h
end

/-- The builtin append under a name that the walk's simp does not open: its run is met by a fact laid ahead. In a text: 'attribute [local go_sem ↓] app_hide'. -/
def AppH (ts : Array TypeId) (ty : TypeId) (vs : Array Value) : Sem Value := Builtin.append_ ts ty vs
theorem app_hide (ts : Array TypeId) (ty : TypeId) (vs : Array Value) : Builtin.append_ ts ty vs = AppH ts ty vs := rfl
/-- The builtin copy, likewise. -/
def CopyH (ts : Array TypeId) (ty : TypeId) (vs : Array Value) : Sem Value := Builtin.copy_ ts ty vs
theorem copy_hide (ts : Array TypeId) (ty : TypeId) (vs : Array Value) : Builtin.copy_ ts ty vs = CopyH ts ty vs := rfl

/-- The builtin clear of a slice. -/
def ClearH (ts : Array TypeId) (ty : TypeId) (vs : Array Value) : Sem Value := Builtin.clear_ ts ty vs
theorem clear_hide (ts : Array TypeId) (ty : TypeId) (vs : Array Value) : Builtin.clear_ ts ty vs = ClearH ts ty vs := rfl
theorem run_clear_any {P : Program} {w : World} (t e ty : TypeId) (z : Value) (ht : P.underlying t = some (.slice e)) (hv : ∀ w, (zeroValue e).run P w = .ok z w) (h1 : ∀ v ∈ z.cells.toList, v.oneCell' = true)
    (A : Option Addr) (n c g o : Nat) (cur : List Value) (hA : 0 < n → A = some ⟨g, o, none⟩) (hg : Blk w g e cur.toArray) (hfit : o + n * z.cells.size ≤ cur.length) :
    ∃ w', (ClearH #[t] ty #[.slice A n c]).run P w = .ok (.tuple #[]) w' ∧ (∃ news, news.length = n * z.cells.size ∧ Blk w' g e (splice cur o news).toArray) ∧ Only [g] w w' := by
  unfold ClearH
  rcases n with _ | n
  · refine ⟨w, ?_, ⟨[], by simp, by simpa [splice] using hg⟩, Only.refl _ _⟩
    rcases A with _ | a <;> simp [Builtin.clear_, run_underlying ht]
  · obtain rfl := hA (by omega)
    have hl : (Builtin.zeroCells z.cells (n + 1)).toList.length = (n + 1) * z.cells.size := by simp [Builtin.zeroCells]
    have hall : ∀ v ∈ (Builtin.zeroCells z.cells (n + 1)).toList, v.oneCell' = true := by
      intro v hv'
      simp only [Builtin.zeroCells, Array.mem_toList_iff, Array.mem_map, Array.mem_range] at hv'
      obtain ⟨i, hi, rfl⟩ := hv'
      have hpos : 0 < z.cells.size := by
        rcases Nat.eq_zero_or_pos z.cells.size with h0 | h0
        · simp [h0] at hi
        · exact h0
      refine h1 _ ?_
      rw [getElem!_pos z.cells _ (Nat.mod_lt _ hpos)]
      simp
    obtain ⟨Z, hZ⟩ : ∃ Z, Z = (Builtin.zeroCells z.cells (n + 1)).toList := ⟨_, rfl⟩
    rw [← hZ] at hl hall
    have hst := run_storeCells_at P g o e Z 0 cur.toArray w hg (by rw [hl]; simpa using hfit) hall
    refine ⟨w.setRow g (cur.toArray.toList.take (o + 0) ++ Z ++ cur.toArray.toList.drop (o + 0 + Z.length)).toArray, ?_, ⟨Z, hl, ?_⟩, only_setRow w g _⟩
    · rw [hZ] at hst ⊢
      simp [Builtin.clear_, run_underlying ht, hv, hst]
    · have := setRow_heap w g cur.toArray (cur.toArray.toList.take (o + 0) ++ Z ++ cur.toArray.toList.drop (o + 0 + Z.length)).toArray e _ hg
      simpa [splice, Blk] using this

theorem run_cut_h {P : Program} {t e : TypeId} {s : Nat} (ht : P.underlying t = some (.slice e)) (hs : (P.info? e).map (·.size) = some s) (g o : Nat) (len cap : Nat) (kh : IntKind) (h : Int) (hi : Nat) (hh : h = hi) (h2 : hi ≤ cap) (W : World) :
    (Instr.sliceAt t (.slice (some ⟨g, o, none⟩) len cap) none (some (.int kh h)) none).run P W = .ok (.slice (some ⟨g, o, none⟩) hi cap) W := by
  subst hh
  have he := elem_of ht
  have ht' : P.underlying t = some (.slice (P.elem t)) := by rw [he]; exact ht
  rw [run_sliceAt_slice W t _ _ _ _ ht', run_slice_h W t _ len cap ht' kh hi (by omega) (by omega), he, run_sizeOf_of hs]
  simp [sliced, Result.andThen, add_mk]
end Go.Proofs.YthlaoanfoimkfaaDoor
