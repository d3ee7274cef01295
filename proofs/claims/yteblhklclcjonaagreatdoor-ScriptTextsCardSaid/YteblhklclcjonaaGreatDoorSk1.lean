/- Script: programs, texts and events in memory. No condition. -/
import Derived.Test.YteblhklclcjonaaGreatDoorCdD
import Derived.Test.YteblhklclcjonaaGreatDoorCdQ
import Derived.Test.YteblhklclcjonaaGreatDoorSc4
namespace Go.Proofs.YteblhklclcjonaaGreatDoor
open Go.RowKit
set_option linter.unusedVariables false
set_option linter.all false
set_option maxRecDepth 20000

theorem own_ty {w : World} {B size n c : Nat} {e : TypeId} {A : Option Addr} {xs : List Value} (h : w.ownsRow B e size (.slice A n c) n xs) : ∀ x ∈ blkOf A, ∃ cs, Blk w x e cs := by
  intro x hx
  rcases h.2 with ⟨hv, _⟩ | ⟨g, cap, cur, hv, _, hg, _⟩
  · simp only [Value.slice.injEq] at hv
    rw [hv.1] at hx
    simp [blkOf] at hx
  · simp only [Value.slice.injEq] at hv
    rw [hv.1] at hx
    simp [blkOf] at hx
    subst hx
    exact ⟨cur, hg⟩
theorem own_apart {w : World} {B B' size size' n n' c c' : Nat} {e e' : TypeId} {A A' : Option Addr} {xs xs' : List Value} (h : w.ownsRow B e size (.slice A n c) n xs) (h' : w.ownsRow B' e' size' (.slice A' n' c') n' xs') (hne : e ≠ e') : ∀ x ∈ blkOf A, x ∉ blkOf A' := by
  intro x hx hx'
  obtain ⟨cs, h1⟩ := own_ty h x hx
  obtain ⟨cs', h2⟩ := own_ty h' x hx'
  exact Blk.ne_ h1 h2 hne rfl
/-- A row of slices. -/
def psV (vs : List (Option Addr × Nat)) (ps : List (List Ins)) : List Value := (vs.zip ps).map fun x => .slice x.1.1 x.2.length x.1.2
/-- Programs in memory, each in a block of its own. -/
structure Ps (w : World) (B : Nat) (A : Option Addr) (c : Nat) (vs : List (Option Addr × Nat)) (ps : List (List Ins)) : Prop where
  len : vs.length = ps.length
  row : w.ownsRow B 67 1 (.slice A ps.length c) ps.length (psV vs ps)
  each : ∀ x ∈ vs.zip ps, Is w B x.1.1 x.1.2 x.2
  apart : vs.Pairwise fun u v => ∀ x ∈ blkOf u.1, x ∉ blkOf v.1
theorem Ps.nil (w : World) (B : Nat) : Ps w B none 0 [] [] := ⟨rfl, World.ownsRow_nil .., (fun _ h => by cases h), List.Pairwise.nil⟩
theorem Ps.only {w w' : World} {B : Nat} {A : Option Addr} {c : Nat} {vs : List (Option Addr × Nat)} {ps : List (List Ins)} {S : List Nat} (h : Ps w B A c vs ps) (o : Only S w w') (h1 : ∀ k ∈ blkOf A, k ∉ S) (h2 : ∀ x ∈ vs.zip ps, ∀ k ∈ blkOf x.1.1, k ∉ S) : Ps w' B A c vs ps :=
  ⟨h.len, own_only' h.row o h1, fun x hx => own_only' (h.each x hx) o (h2 x hx), h.apart⟩
theorem Ps.only0 {w w' : World} {B : Nat} {A : Option Addr} {c : Nat} {vs : List (Option Addr × Nat)} {ps : List (List Ins)} (h : Ps w B A c vs ps) (o : Only [] w w') : Ps w' B A c vs ps := h.only o (by simp) (by simp)
/-- Where only blocks of other types turn, programs stay. -/
theorem Ps.far {w w' : World} {B : Nat} {A : Option Addr} {c : Nat} {vs : List (Option Addr × Nat)} {ps : List (List Ins)} {S : List Nat} (h : Ps w B A c vs ps) (o : Only S w w') (hS : ∀ k ∈ S, (∃ t cs, Blk w k t cs ∧ t ≠ 67 ∧ t ≠ 99)) : Ps w' B A c vs ps :=
  h.only o (fun k hk hs => by
    obtain ⟨t, cs, h1, h2, h3⟩ := hS k hs
    obtain ⟨cs', h4⟩ := own_ty h.row k hk
    exact Blk.ne_ h4 h1 (fun e => h2 e.symm) rfl) (fun x hx k hk hs => by
    obtain ⟨t, cs, h1, h2, h3⟩ := hS k hs
    obtain ⟨cs', h4⟩ := own_ty (h.each x hx) k hk
    exact Blk.ne_ h4 h1 (fun e => h3 e.symm) rfl)
theorem own_set {w : World} {B n c g : Nat} {e : TypeId} {xs : List Value} (h : w.ownsRow B e 1 (.slice (some ⟨g, 0, none⟩) n c) n xs) (j : Nat) (v : Value) (hj : j < n) : (w.setCell ⟨g, j, none⟩ v).ownsRow B e 1 (.slice (some ⟨g, 0, none⟩) n c) n (xs.set j v) := by
  rcases h.2 with ⟨hv, _⟩ | ⟨g', cap, cur, hv, hb, hg, hn, hm, hs, ht⟩
  · simp at hv
  · simp only [Value.slice.injEq, Option.some.injEq, Addr.mk.injEq] at hv
    obtain ⟨⟨rfl, _⟩, _, rfl⟩ := hv
    refine ⟨by simpa using h.1, .inr ⟨g, c, cur.setIfInBounds j v, rfl, hb, Blk.set_ (t := e) hg j v, hn, hm, by simpa using hs, ?_⟩⟩
    rw [Array.toList_setIfInBounds, ← ht, List.take_set]
theorem psV_snoc {us : List (Option Addr × Nat)} {qs : List (List Ins)} (h : us.length = qs.length) (v : Option Addr × Nat) (p : List Ins) : psV (us ++ [v]) (qs ++ [p]) = psV us qs ++ [.slice v.1 p.length v.2] := by
  unfold psV
  rw [List.zip_append h]
  simp
theorem psV_len {us : List (Option Addr × Nat)} {qs : List (List Ins)} (h : us.length = qs.length) : (psV us qs).length = qs.length := by
  unfold psV
  simp [h]
/-- The last program's cell. -/
theorem Ps.last {w : World} {B : Nat} {A : Option Addr} {c : Nat} {us : List (Option Addr × Nat)} {v : Option Addr × Nat} {qs : List (List Ins)} {p : List Ins} (h : Ps w B A c (us ++ [v]) (qs ++ [p])) : ∃ g, A = some ⟨g, 0, none⟩ ∧ w.cell? ⟨g, qs.length, none⟩ = some (.slice v.1 p.length v.2) ∧ (∀ j, w.frozen? ⟨g, j, none⟩ = false) ∧ Is w B v.1 v.2 p ∧ us.length = qs.length := by
  have hl : us.length = qs.length := by have := h.len; simpa using this
  have hrow := h.row
  rw [psV_snoc hl] at hrow
  obtain ⟨g, rfl, h1, h2⟩ := own_cell hrow (by simp)
  refine ⟨g, rfl, ?_, h2, ?_, hl⟩
  · rw [h1 qs.length (by simp), List.getElem?_append_right (by rw [psV_len hl]; exact Nat.le_refl _), psV_len hl, Nat.sub_self]
    rfl
  · have := h.each (v, p) (by rw [List.zip_append hl]; simp)
    exact this
theorem Ps.push {w w2 : World} {B g : Nat} {c : Nat} {us : List (Option Addr × Nat)} {v : Option Addr × Nat} {qs : List (List Ins)} {p : List Ins} {A' : Option Addr} {c' : Nat} {i : Ins} (h : Ps w B (some ⟨g, 0, none⟩) c (us ++ [v]) (qs ++ [p])) (hI : Is w2 B A' c' (p ++ [i])) (o : Only (blkOf v.1) w w2) (hA : ∀ k ∈ blkOf A', k ∈ blkOf v.1 ∨ w.heap.size ≤ k) : Ps (w2.setCell ⟨g, qs.length, none⟩ (.slice A' (p.length + 1) c')) B (some ⟨g, 0, none⟩) c (us ++ [(A', c')]) (qs ++ [p ++ [i]]) := by
  have hl : us.length = qs.length := by have := h.len; simpa using this
  have hrow := h.row
  rw [psV_snoc hl] at hrow
  have hv := h.each (v, p) (by rw [List.zip_append hl]; simp)
  have hg : ∃ cs, Blk w g 67 cs := own_ty hrow g (by simp [blkOf])
  obtain ⟨cg, hg⟩ := hg
  have hgv : g ∉ blkOf v.1 := fun hm => by
    obtain ⟨cs, h1⟩ := own_ty hv g hm
    exact Blk.ne_ hg h1 (by decide) rfl
  have hrow2 := own_only' hrow o (by simp [blkOf]; exact hgv)
  have hg2 := hg.only o hgv
  have ap := h.apart
  rw [List.pairwise_append] at ap
  have o3 : Only [g] w2 (w2.setCell ⟨g, qs.length, none⟩ (.slice A' (p.length + 1) c')) := (Only.refl [g] w2).setCell (.inl (by simp)) _
  have ne3 : ∀ {A : Option Addr} {c : Nat} {q : List Ins}, Is w2 B A c q → Is (w2.setCell ⟨g, qs.length, none⟩ (.slice A' (p.length + 1) c')) B A c q := fun {A c q} hq => own_only' hq o3 (fun k hk hs => by
    simp at hs
    subst hs
    obtain ⟨cs, h1⟩ := own_ty hq k hk
    exact Blk.ne_ hg2 h1 (by decide) rfl)
  have old : ∀ x ∈ us.zip qs, ∀ k ∈ blkOf x.1.1, k ∉ blkOf v.1 ∧ k < w.heap.size := fun x hx k hk =>
    ⟨ap.2.2 x.1 (List.of_mem_zip hx).1 v (by simp) k hk, (own_ge (h.each x (by rw [List.zip_append hl]; simp [hx])) k hk).2⟩
  refine ⟨by simp [hl], ?_, ?_, ?_⟩
  · rw [psV_snoc hl]
    have := own_set hrow2 qs.length (.slice A' (p.length + 1) c') (by simp)
    rw [List.set_append_right _ _ (by rw [psV_len hl]; exact Nat.le_refl _), psV_len hl, Nat.sub_self] at this
    simpa using this
  · intro x hx
    rw [List.zip_append hl] at hx
    rcases List.mem_append.1 hx with hx | hx
    · exact ne3 (own_only' (h.each x (by rw [List.zip_append hl]; simp [hx])) o (fun k hk => (old x hx k hk).1))
    · simp only [List.zip_cons_cons, List.zip_nil_right, List.mem_cons, List.not_mem_nil, or_false] at hx
      subst hx
      exact ne3 hI
  · rw [List.pairwise_append]
    refine ⟨ap.1, by simp, fun u hu y hy k hk hk2 => ?_⟩
    simp only [List.mem_cons, List.not_mem_nil, or_false] at hy
    subst hy
    obtain ⟨j, hj, rfl⟩ := List.mem_iff_getElem.1 hu
    have hz : (us[j], qs[j]'(by omega)) ∈ us.zip qs := by
      rw [List.mem_iff_getElem]
      exact ⟨j, by simp; omega, by simp⟩
    have h1 := old _ hz k hk
    rcases hA k hk2 with h2 | h2
    · exact h1.1 h2
    · omega
theorem Ps.grow {w w2 : World} {B : Nat} {A A' : Option Addr} {c c' : Nat} {vs : List (Option Addr × Nat)} {ps : List (List Ins)} (h : Ps w B A c vs ps) (hrow : w2.ownsRow B 67 1 (.slice A' (ps.length + 1) c') (ps.length + 1) (psV vs ps ++ [.slice none 0 0])) (o : Only (blkOf A) w w2) : Ps w2 B A' c' (vs ++ [(none, 0)]) (ps ++ [[]]) := by
  have hl := h.len
  refine ⟨by simp [hl], by rw [psV_snoc hl]; simpa using hrow, ?_, ?_⟩
  · intro x hx
    rw [List.zip_append hl] at hx
    rcases List.mem_append.1 hx with hx | hx
    · refine own_only' (h.each x hx) o (fun k hk hs => ?_)
      obtain ⟨cs, h1⟩ := own_ty h.row k hs
      obtain ⟨cs', h2⟩ := own_ty (h.each x hx) k hk
      exact Blk.ne_ h1 h2 (by decide) rfl
    · simp only [List.zip_cons_cons, List.zip_nil_right, List.mem_cons, List.not_mem_nil, or_false] at hx
      subst hx
      exact World.ownsRow_nil ..
  · rw [List.pairwise_append]
    exact ⟨h.apart, by simp, fun u hu y hy k hk hk2 => by simp only [List.mem_cons, List.not_mem_nil, or_false] at hy; subst hy; simp [blkOf] at hk2⟩
theorem info67 : (Tryz.prog.info? 67).map (fun i => (i.zero, i.size, i.bytes)) = some (some (.slice none 0 0), 1, 24) := by kernel_rfl
theorem app_nilp (W : World) (B : Nat) (A : Option Addr) (c : Nat) (vs : List (Option Addr × Nat)) (ps : List (List Ins)) (h : Ps W B A c vs ps) (hl : ps.length ≤ 1000) (hB : B ≤ W.heap.size) :
    ∃ g' c' w2, (AppH #[49, 49] 49 #[.slice A ps.length c, .slice (some ⟨W.heap.size, 0, none⟩) 1 1]).run Tryz.prog (W.alloc (.cells #[.slice none 0 0] 67)) = .ok (.slice (some ⟨g', 0, none⟩) (ps.length + 1) c') w2 ∧
      Ps w2 B (some ⟨g', 0, none⟩) c' (vs ++ [(none, 0)]) (ps ++ [[]]) ∧ Only (blkOf A) W w2 := by
  obtain ⟨i0, hi, hz0, hz1, hz2⟩ := info_parts info67
  obtain ⟨g', cap', w2, hrun, hown, ho, hgg⟩ := append_at (P := Tryz.prog) (W.alloc (.cells #[.slice none 0 0] 67)) B 49 49 67 i0 (.slice none 0 0) 1 24 Tryz.underlying49 hi hz0 hz1 hz2 rfl (by omega) A ps.length c (psV vs ps) (own_only' h.row ((Only.refl [] W).alloc _) (by simp))
    ⟨W.heap.size, 0, none⟩ 1 1 [.slice none 0 0] rfl (fun j u hj => by
      have := (Blk.new W 67 #[.slice none 0 0]).cell j
      rw [add_mk, Nat.zero_add, this]
      rw [← Array.getElem?_toList]
      exact hj) (by intro u hu; simp at hu; subst hu; rfl) (.inl (by omega)) (by unfold maxLen; omega) (by omega) (by simp; omega)
  rw [app_hide] at hrun
  exact ⟨g', cap', w2, hrun, (h.only0 ((Only.refl [] W).alloc _)).grow hown ho, ((Only.refl (blkOf A) W).alloc _).trans' ho⟩
/-! ## Events -/
def EvV (l : List Ev) : List Value := l.flatMap fun e => [.int .i64 e.kind, .int .i64 e.num]
def Es (w : World) (B : Nat) (A : Option Addr) (c : Nat) (l : List Ev) : Prop := w.ownsRow B 24 2 (.slice A l.length c) l.length (EvV l)
theorem Es.only0 {w w' : World} {B : Nat} {A : Option Addr} {c : Nat} {l : List Ev} (h : Es w B A c l) (o : Only [] w w') : Es w' B A c l := own_only' h o (by simp)
theorem EvV_append (a b : List Ev) : EvV (a ++ b) = EvV a ++ EvV b := by simp [EvV]
theorem info24e : (Tryz.prog.info? 24).map (fun i => (i.zero, i.size, i.bytes)) = some (some (.agg #[.int .i64 0, .int .i64 0]), 2, 16) := by kernel_rfl
theorem app_ev (W : World) (B : Nat) (A : Option Addr) (c : Nat) (l : List Ev) (e : Ev) (hrow : Es W B A c l) (hl : l.length ≤ 100000) (hB : B ≤ W.heap.size) :
    ∃ g' c' w2, (AppH #[27, 27] 27 #[.slice A l.length c, .slice (some ⟨W.heap.size, 0, none⟩) 1 1]).run Tryz.prog (W.alloc (.cells #[.int .i64 e.kind, .int .i64 e.num] 24)) = .ok (.slice (some ⟨g', 0, none⟩) (l.length + 1) c') w2 ∧
      Es w2 B (some ⟨g', 0, none⟩) c' (l ++ [e]) ∧ Only (blkOf A) W w2 := by
  obtain ⟨i0, hi, hz0, hz1, hz2⟩ := info_parts info24e
  obtain ⟨g', cap', w2, hrun, hown, ho, hgg⟩ := append_at (P := Tryz.prog) (W.alloc (.cells #[.int .i64 e.kind, .int .i64 e.num] 24)) B 27 27 24 i0 (.agg #[.int .i64 0, .int .i64 0]) 2 16 Tryz.underlying27 hi hz0 hz1 hz2 rfl (by omega) A l.length c (EvV l) (own_only' hrow ((Only.refl [] W).alloc _) (by simp))
    ⟨W.heap.size, 0, none⟩ 1 1 [.int .i64 e.kind, .int .i64 e.num] rfl (fun j u hj => by
      have := (Blk.new W 24 #[.int .i64 e.kind, .int .i64 e.num]).cell j
      rw [add_mk, Nat.zero_add, this]
      rw [← Array.getElem?_toList]
      exact hj) (by intro u hu; simp at hu; rcases hu with rfl | rfl <;> rfl) (.inl (by omega)) (by unfold maxLen; omega) (by omega) (by simp; omega)
  rw [app_hide] at hrun
  have ee : EvV l ++ [.int .i64 e.kind, .int .i64 e.num] = EvV (l ++ [e]) := by rw [EvV_append]; simp [EvV]
  rw [ee] at hown
  exact ⟨g', cap', w2, hrun, by unfold Es; simpa using hown, ((Only.refl (blkOf A) W).alloc _).trans' ho⟩
end Go.Proofs.YteblhklclcjonaaGreatDoor
