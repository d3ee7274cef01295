/- Maps, over any program: a block that is a map, as a function of its keys; looked up, stored into, deleted from, ranged over. No condition. -/
import Derived.Test.YthlaoanfoimkfaaDoorBase
import Derived.Maps.RangeRun
import Derived.Maps.Keyed
import Derived.Maps.RangeWalk
import Derived.Carry
namespace Go.Proofs.YthlaoanfoimkfaaDoor
open Go.RowKit Go.MapKept
open Go.ChangeMaps (setBlock)
open Go.Maps (Keyed)
set_option linter.unusedVariables false
set_option linter.all false

/-- The entries of a map's block: each key once, each read as a key, stamped. -/
structure Mpe (P : Program) (K : TypeId) (w : World) (b : Nat) (es : Array MapEntry) (clock : Nat) (f : Value → Option Value) : Prop where
  heap : w.heap[b]? = some (.map es clock)
  keys : ∀ x ∈ es.toList, ∃ l, keyOf P K x.key = some l
  stamped : Stamped es clock
  says : ∀ k v, f k = some v ↔ ∃ x ∈ es.toList, x.key = k ∧ x.val = v
/-- Block b is a map that answers f, of n entries. -/
def Mp (P : Program) (K : TypeId) (w : World) (b : Nat) (f : Value → Option Value) (n : Nat) : Prop := ∃ es clock, Mpe P K w b es clock f ∧ es.size = n

theorem only_setBlock (w : World) (b : Nat) (o : Obj) : Only [b] w (setBlock w b o) :=
  ⟨rfl, rfl, rfl, by simp [setBlock], fun k hk hn => by
    have : k ≠ b := by simpa using hn
    simp only [setBlock]
    rw [Array.getElem?_setIfInBounds_ne (by omega)]⟩
theorem heap_setBlock {w : World} {b : Nat} {o o' : Obj} (h : w.heap[b]? = some o') : (setBlock w b o).heap[b]? = some o := (heap_set h).1
theorem setObj_is {P : Program} {w : World} {b : Nat} {o o' : Obj} : setBlock w b o = { w with heap := w.heap.setIfInBounds b o } := rfl

section
variable {P : Program} {K : TypeId} {w w' : World} {b n : Nat} {f : Value → Option Value}
theorem Mp.lt (h : Mp P K w b f n) : b < w.heap.size := by
  obtain ⟨es, clock, h, _⟩ := h
  exact (Array.getElem?_eq_some_iff.1 h.heap).1
theorem Mp.only {S : List Nat} (h : Mp P K w b f n) (o : Only S w w') (hb : b ∉ S) : Mp P K w' b f n := by
  have hl := h.lt
  obtain ⟨es, clock, h, hn⟩ := h
  exact ⟨es, clock, ⟨(o.block b hl hb).trans h.heap, h.keys, h.stamped, h.says⟩, hn⟩
theorem Mp.alloc (h : Mp P K w b f n) (o : Obj) : Mp P K (w.alloc o) b f n := h.only ((Only.refl [] w).alloc o) (by simp)
theorem Mp.drew (h : Mp P K w b f n) : Mp P K w.drew b f n := h.only (Only.refl [] w).drew (by simp)
theorem Mp.ne_blk {g : Nat} {t : TypeId} {cs : Array Value} (h : Mp P K w b f n) (hg : Blk w g t cs) : b ≠ g := by
  rintro rfl
  obtain ⟨es, clock, h, _⟩ := h
  unfold Blk at hg
  rw [h.heap] at hg
  cases hg
theorem Mp.made (P : Program) (K : TypeId) (w : World) : Mp P K (w.alloc (.map #[] 0)) w.heap.size (fun _ => none) 0 :=
  ⟨#[], 0, ⟨(MapKept.heap_alloc w _).1, by simp, stamped_empty 0, by simp⟩, rfl⟩
theorem Mp.congr {g : Value → Option Value} (h : Mp P K w b f n) (e : ∀ k, f k = g k) : Mp P K w b g n := by
  have : f = g := funext e
  rwa [this] at h
theorem Mp.key (h : Mp P K w b f n) {k v : Value} (hv : f k = some v) : ∃ l, keyOf P K k = some l := by
  obtain ⟨es, clock, h, _⟩ := h
  obtain ⟨x, hx, rfl, _⟩ := (h.says k v).1 hv
  exact h.keys x hx

/-- What the search finds. -/
theorem Mpe.find {es : Array MapEntry} {clock : Nat} (h : Mpe P K w b es clock f) (hK : Keyed P K) {key : Value} {l : Lit} (hk : keyOf P K key = some l) :
    ((Instr.findKey K key es.toList).run P w = .ok none w ∧ f key = none) ∨ ∃ j e, (Instr.findKey K key es.toList).run P w = .ok (some (j, e.val)) w ∧ es.toList[j]? = some e ∧ e.key = key ∧ f key = some e.val := by
  rcases hK.find w hk es.toList h.keys with ⟨h1, h2⟩ | ⟨j, e, h1, h2, h3⟩
  · refine .inl ⟨h1, ?_⟩
    cases hf : f key with
    | none => rfl
    | some v =>
      obtain ⟨x, hx, hxk, _⟩ := (h.says key v).1 hf
      exact absurd hxk (h2 x hx)
  · exact .inr ⟨j, e, h1, h2, h3, (h.says key e.val).2 ⟨e, List.mem_of_getElem? h2, h3, rfl⟩⟩

theorem Mp.look {T E : TypeId} (h : Mp P K w b f n) (hK : Keyed P K) (ht : P.underlying T = some (.map K E)) {key v : Value} {l : Lit} (hk : keyOf P K key = some l) (hv : f key = some v) :
    (Instr.lookup T (.map (some b)) key false).run P w = .ok v w ∧ (Instr.lookup T (.map (some b)) key true).run P w = .ok (.tuple #[v, .bool true]) w := by
  obtain ⟨es, clock, h, _⟩ := h
  rcases h.find hK hk with ⟨_, h2⟩ | ⟨j, e, h1, _, _, h4⟩
  · rw [hv] at h2; cases h2
  · rw [hv, Option.some.injEq] at h4
    subst h4
    constructor <;> simp [Instr.lookup, run_underlying ht, MapKept.run_getObj_map h.heap, hK.check w _ hk, h1, Result.andThen]
theorem Mp.miss {T E : TypeId} (h : Mp P K w b f n) (hK : Keyed P K) (ht : P.underlying T = some (.map K E)) {key z : Value} {l : Lit} (hz : (zeroValue E).run P w = .ok z w) (hk : keyOf P K key = some l) (hv : f key = none) :
    (Instr.lookup T (.map (some b)) key false).run P w = .ok z w ∧ (Instr.lookup T (.map (some b)) key true).run P w = .ok (.tuple #[z, .bool false]) w := by
  obtain ⟨es, clock, h, _⟩ := h
  rcases h.find hK hk with ⟨h1, _⟩ | ⟨j, e, _, _, _, h4⟩
  · constructor <;> simp [Instr.lookup, run_underlying ht, MapKept.run_getObj_map h.heap, hK.check w _ hk, h1, hz, Result.andThen]
  · rw [hv] at h4; cases h4

theorem mem_set_iff {es : List MapEntry} {j : Nat} {e e' x : MapEntry} (hj : es[j]? = some e) (hap : es.Pairwise (fun a b => a.key ≠ b.key)) : x ∈ es.set j e' ↔ x = e' ∨ (x ∈ es ∧ x.key ≠ e.key) := by
  have hjl := (List.getElem?_eq_some_iff.1 hj).1
  have hje := (List.getElem?_eq_some_iff.1 hj).2
  constructor
  · intro hx
    obtain ⟨i, hi, ex⟩ := List.getElem_of_mem hx
    rw [List.getElem_set] at ex
    split at ex
    · exact .inl ex.symm
    · rename_i hne
      have hi' : i < es.length := by simpa using hi
      refine .inr ⟨ex ▸ List.getElem_mem hi', ?_⟩
      rw [← ex, ← hje]
      rcases Nat.lt_or_ge i j with hlt | hge
      · exact List.pairwise_iff_getElem.1 hap i j hi' hjl hlt
      · exact (List.pairwise_iff_getElem.1 hap j i hjl hi' (by omega)).symm
  · rintro (rfl | ⟨hx, hne⟩)
    · exact List.mem_iff_getElem.2 ⟨j, by simpa using hjl, by simp⟩
    · obtain ⟨i, hi, ex⟩ := List.getElem_of_mem hx
      have hij : i ≠ j := by
        rintro rfl
        rw [hje] at ex
        exact hne (by rw [ex])
      exact List.mem_iff_getElem.2 ⟨i, by simpa using hi, by rw [List.getElem_set_ne (by omega)]; exact ex⟩

/-- A store. -/
theorem Mp.put {T E : TypeId} (h : Mp P K w b f n) (hK : Keyed P K) (ht : P.underlying T = some (.map K E)) {key : Value} {l : Lit} (hk : keyOf P K key = some l) (v : Value) (g : Value → Option Value) (g1 : g key = some v) (g2 : ∀ k, k ≠ key → g k = f k) :
    ∃ w', (Instr.mapUpdate T (.map (some b)) key v).run P w = .ok () w' ∧ Mp P K w' b g (if (f key).isSome then n else n + 1) ∧ Only [b] w w' := by
  obtain ⟨es, clock, h, hn⟩ := h
  have hap := ((stamped_iff es clock).1 h.stamped).2.2
  rcases hK.find w hk es.toList h.keys with ⟨h1, h2⟩ | ⟨j, e, h1, h2, h3⟩
  · have hf : f key = none := by
      cases hf : f key with
      | none => rfl
      | some v =>
        obtain ⟨x, hx, hxk, _⟩ := (h.says key v).1 hf
        exact absurd hxk (h2 x hx)
    refine ⟨setBlock w b (.map (es.push ⟨key, v, clock⟩) (clock + 1)), ?_, ⟨_, _, ⟨heap_setBlock h.heap, ?_, stamped_push h.stamped h2, ?_⟩, by simp [hf, hn]⟩, only_setBlock ..⟩
    · simp [Instr.mapUpdate, run_underlying ht, MapKept.run_getObj_map h.heap, hK.check w false hk, h1, MapKept.run_setObj_map _ h.heap, Result.andThen, setBlock]
    · intro x hx
      simp only [Array.toList_push, List.mem_append, List.mem_singleton] at hx
      rcases hx with hx | rfl
      · exact h.keys x hx
      · exact ⟨l, hk⟩
    · intro k u
      simp only [Array.toList_push, List.mem_append, List.mem_singleton]
      by_cases e : k = key
      · subst e
        rw [g1]
        constructor
        · intro hu
          rw [Option.some.injEq] at hu
          subst hu
          exact ⟨_, .inr rfl, rfl, rfl⟩
        · rintro ⟨x, hx | rfl, hxk, hxv⟩
          · exact absurd hxk (h2 x hx)
          · exact congrArg some hxv
      · rw [g2 k e, h.says]
        constructor
        · rintro ⟨x, hx, r⟩; exact ⟨x, .inl hx, r⟩
        · rintro ⟨x, hx | rfl, r⟩
          · exact ⟨x, hx, r⟩
          · exact absurd r.1.symm e
  · have hj : es[j]? = some e := by simpa using h2
    have hf : f key = some e.val := (h.says key e.val).2 ⟨e, List.mem_of_getElem? h2, h3, rfl⟩
    have hkeyf : ∀ e', es[j]? = some e' → ({ e' with key := key, val := v } : MapEntry).key = e'.key := fun e' he' => by rw [hj] at he'; cases he'; exact h3.symm
    have hlist : (es.modify j (fun e' => { e' with key := key, val := v })).toList = es.toList.set j { e with key := key, val := v } := by rw [Array.toList_modify, ChangeMaps.modify_eq_set _ _ _ _ h2]
    refine ⟨setBlock w b (.map (es.modify j (fun e' => { e' with key := key, val := v })) clock), ?_, ⟨_, _, ⟨heap_setBlock h.heap, ?_, stamped_modify h.stamped _ _ (fun _ _ => rfl) (fun e' _ he' => hkeyf e' he'), ?_⟩, by simp [hf, hn]⟩, only_setBlock ..⟩
    · simp [Instr.mapUpdate, run_underlying ht, MapKept.run_getObj_map h.heap, hK.check w false hk, h1, hj, h3, hK.stays w hk, MapKept.run_setObj_map _ h.heap, Result.andThen, setBlock]
    · intro x hx
      rw [hlist, mem_set_iff h2 hap] at hx
      rcases hx with rfl | hx
      · exact ⟨l, hk⟩
      · exact h.keys x hx.1
    · intro k u
      rw [hlist]
      simp only [mem_set_iff h2 hap]
      by_cases ek : k = key
      · subst ek
        rw [g1]
        constructor
        · intro hu
          rw [Option.some.injEq] at hu
          subst hu
          exact ⟨_, .inl rfl, rfl, rfl⟩
        · rintro ⟨x, rfl | hx, hxk, hxv⟩
          · exact congrArg some hxv
          · exact absurd (hxk.trans h3.symm) hx.2
      · rw [g2 k ek, h.says]
        constructor
        · rintro ⟨x, hx, r⟩; exact ⟨x, .inr ⟨hx, by rw [r.1, h3]; exact ek⟩, r⟩
        · rintro ⟨x, rfl | hx, r⟩
          · exact absurd r.1.symm ek
          · exact ⟨x, hx.1, r⟩

theorem erase_toList {es : Array MapEntry} {j : Nat} (hj : j < es.size) : (es.eraseIdxIfInBounds j).toList = es.toList.eraseIdx j := by
  unfold Array.eraseIdxIfInBounds
  rw [dif_pos hj]
  simp
/-- A delete. -/
theorem Mp.del {T E ty : TypeId} (h : Mp P K w b f n) (hK : Keyed P K) (ht : P.underlying T = some (.map K E)) {key : Value} {l : Lit} (hk : keyOf P K key = some l) (g : Value → Option Value) (g1 : g key = none) (g2 : ∀ k, k ≠ key → g k = f k) :
    ∃ w', (Builtin.delete_ #[T, K] ty #[.map (some b), key]).run P w = .ok (.tuple #[]) w' ∧ Mp P K w' b g (if (f key).isSome then n - 1 else n) ∧ Only [b] w w' := by
  obtain ⟨es, clock, h, hn⟩ := h
  have hap := ((stamped_iff es clock).1 h.stamped).2.2
  rcases hK.find w hk es.toList h.keys with ⟨h1, h2⟩ | ⟨j, e, h1, h2, h3⟩
  · have hf : f key = none := by
      cases hf : f key with
      | none => rfl
      | some v =>
        obtain ⟨x, hx, hxk, _⟩ := (h.says key v).1 hf
        exact absurd hxk (h2 x hx)
    refine ⟨setBlock w b (.map es clock), ?_, ⟨_, _, ⟨heap_setBlock h.heap, h.keys, h.stamped, ?_⟩, by simp [hf, hn]⟩, only_setBlock ..⟩
    · simp [Builtin.delete_, run_underlying ht, MapKept.run_getObj_map h.heap, hK.check w _ hk, h1, MapKept.run_setObj_map _ h.heap, Result.andThen, setBlock]
    · intro k u
      by_cases ek : k = key
      · subst ek
        rw [g1, ← hf]; exact h.says k u
      · rw [g2 k ek]; exact h.says k u
  · have hjl : j < es.toList.length := (List.getElem?_eq_some_iff.1 h2).1
    have hjs : j < es.size := by simpa using hjl
    have hf : f key = some e.val := (h.says key e.val).2 ⟨e, List.mem_of_getElem? h2, h3, rfl⟩
    refine ⟨setBlock w b (.map (es.eraseIdxIfInBounds j) clock), ?_, ⟨_, _, ⟨heap_setBlock h.heap, ?_, stamped_erase h.stamped j, ?_⟩, ?_⟩, only_setBlock ..⟩
    · simp [Builtin.delete_, run_underlying ht, MapKept.run_getObj_map h.heap, hK.check w _ hk, h1, MapKept.run_setObj_map _ h.heap, Result.andThen, setBlock]
    · intro x hx
      rw [erase_toList hjs] at hx
      exact h.keys x ((List.eraseIdx_sublist _ _).subset hx)
    · intro k u
      rw [erase_toList hjs]
      have hmem : ∀ x, x ∈ es.toList.eraseIdx j ↔ x ∈ es.toList ∧ x.key ≠ key := fun x => by
        rw [List.mem_eraseIdx_iff_getElem?]
        constructor
        · rintro ⟨i, hne, hi⟩
          have hil := (List.getElem?_eq_some_iff.1 hi).1
          refine ⟨List.mem_of_getElem? hi, ?_⟩
          rw [← h3, ← (List.getElem?_eq_some_iff.1 hi).2, ← (List.getElem?_eq_some_iff.1 h2).2]
          rcases Nat.lt_or_ge i j with hlt | hge
          · exact List.pairwise_iff_getElem.1 hap i j hil hjl hlt
          · exact (List.pairwise_iff_getElem.1 hap j i hjl hil (by omega)).symm
        · rintro ⟨hx, hne⟩
          obtain ⟨i, hi⟩ := List.getElem?_of_mem hx
          refine ⟨i, ?_, hi⟩
          rintro rfl
          rw [h2, Option.some.injEq] at hi
          exact hne (by rw [← hi, h3])
      simp only [hmem]
      by_cases ek : k = key
      · subst ek
        rw [g1]
        constructor
        · intro hu; cases hu
        · rintro ⟨x, hx, hxk, _⟩; exact absurd hxk hx.2
      · rw [g2 k ek, h.says]
        constructor
        · rintro ⟨x, hx, r⟩; exact ⟨x, ⟨hx, by rw [r.1]; exact ek⟩, r⟩
        · rintro ⟨x, hx, r⟩; exact ⟨x, hx.1, r⟩
    · have : (es.eraseIdxIfInBounds j).toList.length = es.size - 1 := by
        rw [erase_toList hjs, List.length_eraseIdx_of_lt hjl]; simp
      rw [Array.length_toList] at this
      rw [hf, this, hn]; rfl

/-! ## A range -/
/-- Block r goes over the map of block b; the keys that are left are to come yet; m of them. -/
def Rg (P : Program) (K : TypeId) (w : World) (b r : Nat) (f : Value → Option Value) (n : Nat) (left : Value → Prop) (m : Nat) : Prop :=
  ∃ es clock seen, Mpe P K w b es clock f ∧ es.size = n ∧ w.heap[r]? = some (.mapIter (some b) clock seen clock) ∧ (∀ x ∈ es.toList, left x.key ↔ seen.contains x.born = false) ∧ m = (leftOf es seen).size ∧ ∀ k, left k → (f k).isSome = true
theorem Rg.mp {r m : Nat} {left : Value → Prop} (h : Rg P K w b r f n left m) : Mp P K w b f n := by
  obtain ⟨es, clock, seen, h, hn, _⟩ := h
  exact ⟨es, clock, h, hn⟩
theorem Rg.lt {r m : Nat} {left : Value → Prop} (h : Rg P K w b r f n left m) : r < w.heap.size := by
  obtain ⟨es, clock, seen, _, _, h, _⟩ := h
  exact (Array.getElem?_eq_some_iff.1 h).1
theorem Rg.only {r m : Nat} {left : Value → Prop} {S : List Nat} (h : Rg P K w b r f n left m) (o : Only S w w') (hb : b ∉ S) (hr : r ∉ S) : Rg P K w' b r f n left m := by
  have hl := h.mp.lt
  have hl' := h.lt
  obtain ⟨es, clock, seen, h, hn, h2, h3⟩ := h
  exact ⟨es, clock, seen, ⟨(o.block b hl hb).trans h.heap, h.keys, h.stamped, h.says⟩, hn, (o.block r hl' hr).trans h2, h3⟩
theorem Mp.range {T E : TypeId} (h : Mp P K w b f n) (ht : P.underlying T = some (.map K E)) :
    ∃ w', (Instr.range T (.map (some b))).run P w = .ok (.pointer (some ⟨w.heap.size, 0, none⟩)) w' ∧ Rg P K w' b w.heap.size f n (fun k => (f k).isSome = true) n ∧ Only [] w w' ∧ w'.heap.size = w.heap.size + 1 := by
  have hl := h.lt
  obtain ⟨es, clock, h, hn⟩ := h
  have ho : Only [] w (w.alloc (.mapIter (some b) clock #[] clock)) := (Only.refl [] w).alloc _
  refine ⟨w.alloc (.mapIter (some b) clock #[] clock), run_range_map w T K E b es clock ht h.heap, ⟨es, clock, #[], ⟨(ho.block b hl (by simp)).trans h.heap, h.keys, h.stamped, h.says⟩, hn, (MapKept.heap_alloc w _).1, ?_, ?_, fun k hk => hk⟩, ho, by simp⟩
  · intro x hx
    have := (h.says x.key x.val).2 ⟨x, hx, rfl, rfl⟩
    simp [this]
  · have : leftOf es #[] = es := by
      unfold leftOf
      exact Array.filter_eq_self.2 (by simp)
    rw [this, hn]
theorem Rg.next {r m : Nat} {left : Value → Prop} (h : Rg P K w b r f n left m) (ty : TypeId) :
    (m = 0 ∧ (∀ k, ¬ left k) ∧ (Instr.next (.pointer (some ⟨r, 0, none⟩)) false ty).run P w = .ok (.tuple #[.bool false]) w) ∨
    ∃ k v w' m', left k ∧ f k = some v ∧ (∃ l, keyOf P K k = some l) ∧ (Instr.next (.pointer (some ⟨r, 0, none⟩)) false ty).run P w = .ok (.tuple #[.bool true, k, v]) w' ∧ Rg P K w' b r f n (fun z => left z ∧ z ≠ k) m' ∧ m' < m ∧ Only [r] w w' ∧ w'.heap.size = w.heap.size ∧
      (Instr.entry (.pointer (some ⟨r, 0, none⟩))).run P w' = .ok (.tuple #[k, v]) w' := by
  classical
  obtain ⟨es, clock, seen, h, hn, hr, hleft, hm, hsome⟩ := h
  obtain ⟨s1, s2, s3⟩ := (stamped_iff es clock).1 h.stamped
  rcases run_next_at (P := P) w ty r b clock clock seen es clock hr h.heap s1 (Nat.le_refl _) with ⟨h0, hrun⟩ | ⟨e, he, w1, hw1, hrun⟩
  · refine .inl ⟨by omega, fun k hk => ?_, hrun⟩
    have := hsome k hk
    rw [Option.isSome_iff_exists] at this
    obtain ⟨v, hv⟩ := this
    obtain ⟨x, hx, rfl, _⟩ := (h.says k v).1 hv
    rw [hleft x hx, all_seen es seen h0 x hx] at hk
    cases hk
  · obtain ⟨hem, hes⟩ := mem_left he
    have ho1 : Only [] w w1 := by
      rcases hw1 with rfl | rfl
      · exact Only.refl _ _
      · exact (Only.refl _ _).drew
    have hsz1 : w1.heap.size = w.heap.size := by rcases hw1 with rfl | rfl <;> rfl
    have hbr : b ≠ r := by
      rintro rfl
      rw [h.heap] at hr
      cases hr
    have hbl : b < w.heap.size := (Array.getElem?_eq_some_iff.1 h.heap).1
    have hrl : r < w.heap.size := (Array.getElem?_eq_some_iff.1 hr).1
    have hr1 : w1.heap[r]? = some (.mapIter (some b) clock seen clock) := (ho1.block r hrl (by simp)).trans hr
    have ho : Only [r] w (setBlock w1 r (.mapIter (some b) clock (seen.push e.born) clock)) := (ho1.mono (by simp)).trans' (only_setBlock ..)
    have hb' : (setBlock w1 r (.mapIter (some b) clock (seen.push e.born) clock)).heap[b]? = some (.map es clock) := (ho.block b hbl (by simpa using hbr)).trans h.heap
    have hr' : (setBlock w1 r (.mapIter (some b) clock (seen.push e.born) clock)).heap[r]? = some (.mapIter (some b) clock (seen.push e.born) clock) := heap_setBlock hr1
    refine .inr ⟨e.key, e.val, _, (leftOf es (seen.push e.born)).size, ?_, (h.says _ _).2 ⟨e, hem, rfl, rfl⟩, h.keys e hem, hrun, ?_, ?_, ho, by simp [setBlock, hsz1], run_entry_at _ r b clock seen es clock e hr' hb' hem s2⟩
    · rw [hleft e hem]; exact hes
    · refine ⟨es, clock, seen.push e.born, ⟨hb', h.keys, h.stamped, h.says⟩, hn, hr', fun x hx => ?_, rfl, fun k hk => ?_⟩
      · show (left x.key ∧ x.key ≠ e.key) ↔ _
        rw [contains_push, hleft x hx]
        by_cases hb : x.born = e.born
        · have := born_inj s2 hx hem hb
          subst this
          simp
        · have hne : x.key ≠ e.key := by
            intro hk
            obtain ⟨i, hi, ei⟩ := List.getElem_of_mem hx
            obtain ⟨j, hj, ej⟩ := List.getElem_of_mem hem
            rcases Nat.lt_trichotomy i j with hlt | rfl | hlt
            · exact List.pairwise_iff_getElem.1 s3 i j hi hj hlt (by rw [ei, ej]; exact hk)
            · rw [ei] at ej; exact hb (by rw [ej])
            · exact List.pairwise_iff_getElem.1 s3 j i hj hi hlt (by rw [ei, ej]; exact hk.symm)
          simp [hb, hne]
      · exact hsome k hk.1
    · rw [hm]
      exact left_shrinks es seen e he

theorem sub_back {α : Type} : ∀ {l m : List α}, l.Nodup → l ⊆ m → m.length ≤ l.length → m ⊆ l
  | [], m, _, _, h => by
    have : m = [] := List.eq_nil_of_length_eq_zero (by simpa using h)
    rw [this]; simp
  | a :: l, m, hn, hs, h => by
    obtain ⟨h1, h2⟩ := List.nodup_cons.1 hn
    obtain ⟨s, u, rfl⟩ := List.append_of_mem (hs (by simp : a ∈ a :: l))
    have hl : l ⊆ s ++ u := fun x hx => by
      have := hs (List.mem_cons_of_mem a hx)
      simp only [List.mem_append, List.mem_cons] at this ⊢
      rcases this with h | rfl | h
      · exact .inl h
      · exact absurd hx h1
      · exact .inr h
    have := sub_back h2 hl (by simp at h ⊢; omega)
    intro x hx
    simp only [List.mem_append, List.mem_cons] at hx
    rcases hx with hx | rfl | hx
    · exact List.mem_cons_of_mem _ (this (by simp [hx]))
    · simp
    · exact List.mem_cons_of_mem _ (this (by simp [hx]))
/-- Two maps of as many entries: if each key of the one is a key of the other, so the other way round. -/
theorem Mp.same_keys {w2 : World} {b2 : Nat} {f2 : Value → Option Value} (h : Mp P K w b f n) (h2 : Mp P K w2 b2 f2 n) (hs : ∀ k, (f k).isSome = true → (f2 k).isSome = true) : ∀ k, (f2 k).isSome = true → (f k).isSome = true := by
  obtain ⟨es, clock, h, hn⟩ := h
  obtain ⟨es2, clock2, h2, hn2⟩ := h2
  have a1 := ((stamped_iff es clock).1 h.stamped).2.2
  have n1 : (es.toList.map (·.key)).Nodup := by rw [List.nodup_iff_pairwise_ne, List.pairwise_map]; exact a1
  have sub : (es.toList.map (·.key)) ⊆ es2.toList.map (·.key) := by
    intro k hk
    obtain ⟨x, hx, rfl⟩ := List.mem_map.1 hk
    have := hs x.key (by rw [(h.says x.key x.val).2 ⟨x, hx, rfl, rfl⟩]; rfl)
    rw [Option.isSome_iff_exists] at this
    obtain ⟨v, hv⟩ := this
    obtain ⟨y, hy, hyk, _⟩ := (h2.says _ _).1 hv
    exact List.mem_map.2 ⟨y, hy, hyk⟩
  have back := sub_back n1 sub (by simp [hn, hn2])
  intro k hk
  rw [Option.isSome_iff_exists] at hk
  obtain ⟨v, hv⟩ := hk
  obtain ⟨y, hy, hyk, _⟩ := (h2.says _ _).1 hv
  have : k ∈ es.toList.map (·.key) := back (List.mem_map.2 ⟨y, hy, hyk⟩)
  obtain ⟨x, hx, hxk⟩ := List.mem_map.1 this
  rw [(h.says k x.val).2 ⟨x, hx, hxk, rfl⟩]
  rfl
end
end Go.Proofs.YthlaoanfoimkfaaDoor
