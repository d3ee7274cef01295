/- Maps ranged over, at the operation; their length. No condition. -/
import Derived.Test.YthlaoanfoimkfaaDoorMaps
namespace Go.Proofs.YthlaoanfoimkfaaDoor
open Go.RowKit Go.MapKept
open Go.ChangeMaps (setBlock)
open Go.Maps (Keyed)
set_option linter.unusedVariables false
set_option linter.all false

section
variable {P : Program} {K : TypeId} {w : World} {b n : Nat} {f : Value → Option Value}
theorem Mp.len {T E : TypeId} (h : Mp P K w b f n) (ht : P.underlying T = some (.map K E)) (ty : TypeId) : (Builtin.len_ #[T] ty #[.map (some b)]).run P w = .ok (.int .i64 (n : Nat)) w := by
  obtain ⟨es, clock, h, hn⟩ := h
  subst hn
  simp [Builtin.len_, run_underlying ht, MapKept.run_getObj_map h.heap, goInt, Result.andThen]
theorem nodup_le {α : Type} : ∀ {l m : List α}, l.Nodup → l ⊆ m → l.length ≤ m.length
  | [], m, _, _ => by simp
  | a :: l, m, hn, hs => by
    obtain ⟨h1, h2⟩ := List.nodup_cons.1 hn
    obtain ⟨s, u, rfl⟩ := List.append_of_mem (hs (by simp : a ∈ a :: l))
    have hl : l ⊆ s ++ u := fun x hx => by
      have := hs (List.mem_cons_of_mem a hx)
      simp only [List.mem_append, List.mem_cons] at this ⊢
      rcases this with h | rfl | h
      · exact .inl h
      · exact absurd hx h1
      · exact .inr h
    have := nodup_le h2 hl
    simp at this ⊢
    omega
theorem Mp.size_le {w2 : World} {b2 n2 : Nat} {f2 : Value → Option Value} (h : Mp P K w b f n) (h2 : Mp P K w2 b2 f2 n2) (hs : ∀ k, (f k).isSome = true → (f2 k).isSome = true) : n ≤ n2 := by
  obtain ⟨es, clock, h, hn⟩ := h
  obtain ⟨es2, clock2, h2, hn2⟩ := h2
  have a1 := ((stamped_iff es clock).1 h.stamped).2.2
  have n1 : (es.toList.map (·.key)).Nodup := by rw [List.nodup_iff_pairwise_ne, List.pairwise_map]; exact a1
  have sub : (es.toList.map (·.key)) ⊆ es2.toList.map (·.key) := by
    intro k hk
    obtain ⟨x, hx, rfl⟩ := List.mem_map.1 hk
    have := hs x.key (by rw [(h.says x.key x.val).2 ⟨x, hx, rfl, rfl⟩]; rfl)
    rw [Option.isSome_iff_exists] at this
    obtain ⟨v, hv⟩ := this
    obtain ⟨y, hy, hyk, _⟩ := (h2.says _ _).1 hv
    exact List.mem_map.2 ⟨y, hy, hyk⟩
  have := nodup_le n1 sub
  simp at this
  omega
/-- How many are to come. -/
def leftM (w : World) (b r : Nat) : Nat := match w.heap[b]?, w.heap[r]? with
  | some (.map es _), some (.mapIter _ _ seen _) => (leftOf es seen).size
  | _, _ => 0
theorem Rg.left_eq {r m : Nat} {left : Value → Prop} (h : Rg P K w b r f n left m) : leftM w b r = m := by
  obtain ⟨es, clock, seen, h, _, hr, _, hm, _⟩ := h
  unfold leftM
  rw [h.heap, hr, hm]
end
section
variable {P : Program} (w : World) {ops : Array Oper} {rest : List Oper} {o : Oper} {a : Act} {Q : Exit → Act → World → Prop}
theorem wpList_range_rg (hg : o.guard = none) (m : Operand) (t : TypeId) (hop : o.op = Op.range t m) (k e : TypeId) (ht : P.underlying t = some (.map k e)) (b n : Nat) (f : Value → Option Value)
    (hm : a.eval m = .map (some b)) (h : Mp P k w b f n)
    (hK : ∀ w', Rg P k w' b w.heap.size f n (fun k => (f k).isSome = true) n → Only [] w w' → w'.heap.size = w.heap.size + 1 → wpList P ops Q rest (a.put o.dst (.pointer (some ⟨w.heap.size, 0, none⟩))) w') :
    wpList P ops Q (o :: rest) a w := by
  refine wpList_plain hg fun K' hK' => ?_
  obtain ⟨w', hrun, r1, r2, r3⟩ := h.range ht
  unfold Oper.wp
  simp [execOp, hop, hm, hrun, Result.andThen]
  exact hK' _ _ (hK w' r1 r2 r3)
theorem wpList_next_rg {α : Type} (hg : o.guard = none) (it : Operand) (hop : o.op = Op.next it false) (k : TypeId) (mkK mkV : α → Value) (b r n : Nat) (f : Value → Option Value) (left : Value → Prop) (m : Nat)
    (inv : ∀ key v, f key = some v → ∃ x : α, key = mkK x ∧ v = mkV x) (hit : a.eval it = .pointer (some ⟨r, 0, none⟩)) (h : Rg P k w b r f n left m)
    (hDone : m = 0 → (∀ k, ¬ left k) → wpList P ops Q rest (a.put o.dst (.tuple #[.bool false])) w)
    (hMore : ∀ (x : α) (w' : World) (m' : Nat), left (mkK x) → f (mkK x) = some (mkV x) → (∃ l, keyOf P k (mkK x) = some l) → Rg P k w' b r f n (fun z => left z ∧ z ≠ mkK x) m' → m' < m → Only [r] w w' → w'.heap.size = w.heap.size →
      (Instr.entry (.pointer (some ⟨r, 0, none⟩))).run P w' = .ok (.tuple #[mkK x, mkV x]) w' → wpList P ops Q rest (a.put o.dst (.tuple #[.bool true, mkK x, mkV x])) w') :
    wpList P ops Q (o :: rest) a w := by
  refine wpList_plain hg fun K' hK' => ?_
  unfold Oper.wp
  rcases h.next o.type with ⟨h0, hl, hrun⟩ | ⟨key, v, w', m', hlk, hf, hkey, hrun, hrg, hlt, ho, hsz, hen⟩
  · simp [execOp, hop, hit, hrun, Result.andThen]
    exact hK' _ _ (hDone h0 hl)
  · obtain ⟨x, rfl, rfl⟩ := inv key v hf
    simp [execOp, hop, hit, hrun, Result.andThen]
    exact hK' _ _ (hMore x w' m' hlk hf hkey hrg hlt ho hsz hen)
end
end Go.Proofs.YthlaoanfoimkfaaDoor
