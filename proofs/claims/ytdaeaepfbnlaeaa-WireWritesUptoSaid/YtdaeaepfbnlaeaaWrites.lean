/- WireWrites, at inputs of bulk at most 1048576: the law returns true. Condition: what the law reads is of bulk at most 1048576. -/
import Derived.Test.YtdaeaepfbnlaeaaWi21
import Derived.Test.YtdaeaepfbnlaeaaRows
import Derived.Test.YtdaeaepfbnlaeaaWi10
import Derived.Deep.Slices
import Derived.ChangeSame
import Derived.ProofKit
import Derived.OpenShut
import Derived.ChangeOld
import Derived.JoinedCond
namespace Go.Proofs.Ytdaeaepfbnlaeaa.wireWrites
open Go.ChangeShapes Go.WideShapes Go.ChangeAt Go.RowKit Go.Deep
set_option linter.unusedVariables false
set_option linter.all false

theorem bulk_pos {H : Type} (d : DataW H) : 1 ≤ Rows.uptoBulk d := by
  cases d with
  | lit l => cases l <;> simp [Rows.uptoBulk]
  | _ => simp [Rows.uptoBulk]
theorem bulk_len {H : Type} (l : List (DataW H)) : l.length ≤ Rows.uptoBulkAll l := by
  induction l with
  | nil => simp
  | cons d l ih => have := bulk_pos d; simp only [List.length_cons, Rows.uptoBulkAll]; omega

theorem choose_lt {α : Type} [Inhabited α] {n : Nat} {p : Nat → α → Prop} (h : ∀ k, k < n → ∃ z, p k z) : ∃ f : Nat → α, ∀ k, k < n → p k (f k) := by
  classical
  exact ⟨fun k => if hk : k < n then (h k hk).choose else default, fun k hk => by dsimp only; rw [dif_pos hk]; exact (h k hk).choose_spec⟩
theorem cells23 : Try.prog.cellsOf 23 = 1 := by kernel_rfl
theorem flat_bulk {H : Type} (V : Nat → List UInt8) (D : Nat → DataW H) : ∀ l : List Nat, (∀ k ∈ l, (V k).length ≤ Rows.uptoBulk (D k)) → (l.map V).flatten.length ≤ Rows.uptoBulkAll (l.map D)
  | [], _ => by simp
  | k :: l, h => by
    have h1 := h k (by simp)
    have h2 := flat_bulk V D l (fun x hx => h x (by simp [hx]))
    simp only [List.map_cons, List.flatten_cons, List.length_append, Rows.uptoBulkAll]
    omega
/-- A slice of lists of bytes, opened. -/
theorem open_pcs {H : Type} {enc : TypeId × Value → H} {W : World} {base : Nat} {v : Value} {d : DataW H} {p : List MemPlace}
    (hval : Value.okWide Try.prog W .any base 26 v) (h : DataW.Trod enc Try.prog W 0 (fun _ => true) true 26 v d p) : ∃ (A : Option Addr) (c : Nat) (L : List (List UInt8)), v = .slice A L.length c ∧ Pcs W A L ∧ L.length ≤ Rows.uptoBulk d ∧ L.flatten.length ≤ Rows.uptoBulk d := by
  obtain ⟨fuel, hf⟩ := h
  obtain ⟨A, n, c, rfl⟩ := okWide_slice Try.underlying26 hval
  rcases open_slice Try.underlying26 hf with ⟨hcs, hd⟩ | ⟨a, len, cap, m, nn, D, Pl, hcs, _, hl, hm, hmm, hd, hfs⟩
  · simp [Value.cells] at hcs
    obtain ⟨rfl, rfl, rfl⟩ := hcs
    exact ⟨none, 0, [], rfl, fun j ds hj => by simp at hj, by simp, by simp⟩
  · simp [Value.cells] at hcs
    obtain ⟨rfl, rfl, rfl⟩ := hcs
    have hmk : n ≤ m := by rw [hmm]; split <;> omega
    have each : ∀ k, k < n → ∃ ds : List UInt8, ∃ (dA : Option Addr) (dc : Nat), W.cell? (a.add k) = some (.slice dA ds.length dc) ∧ Src W dA ds ∧ ds.length ≤ Rows.uptoBulk (D k) := by
      intro k hk
      obtain ⟨cs', hc, ht⟩ := hfs k (by omega)
      rw [cells23, Nat.mul_one] at hc
      obtain ⟨_, hcl, hat⟩ := World.cells?_some hc
      obtain ⟨u, rfl⟩ : ∃ u, cs' = [u] := by
        match cs', hcl with
        | [u], _ => exact ⟨u, rfl⟩
      obtain ⟨dA, dc, ds, rfl, _, hsrc, _, hlen⟩ := open_bytes1 ht
      have h0 := hat 0 (by omega)
      rw [add_of_add, Nat.add_zero] at h0
      refine ⟨ds, dA, dc, h0, hsrc, ?_⟩
      rcases hlen with rfl | ⟨e', sp', he, hle⟩
      · simp
      · have he' : D k = .slice e' sp' := he
        rw [he']
        simp only [Rows.uptoBulk]
        have := bulk_len e'
        omega
    obtain ⟨V, hV⟩ := choose_lt (α := List UInt8) each
    simp only [Prod.mk.injEq] at hd
    refine ⟨some a, c, (List.range n).map V, by simp, ?_, ?_, ?_⟩
    · intro j ds hj
      rw [List.getElem?_map] at hj
      obtain ⟨k, hk, he⟩ := Option.map_eq_some_iff.1 hj
      obtain ⟨hkl, hke⟩ := List.getElem?_eq_some_iff.1 hk
      simp at hkl hke
      subst hke
      obtain ⟨dA, dc, h1, h2, _⟩ := hV j hkl
      rw [he] at h1 h2
      exact ⟨a, dA, dc, rfl, h1, h2⟩
    · rw [hd.1]
      simp only [Rows.uptoBulk, List.length_map, List.length_range]
      have := bulk_len ((List.range n).map D)
      simp only [List.length_map, List.length_range] at this
      omega
    · rw [hd.1]
      simp only [Rows.uptoBulk]
      have := flat_bulk V D (List.range n) (fun k hk => by
        obtain ⟨dA, dc, _, _, h3⟩ := hV k (List.mem_range.1 hk)
        exact h3)
      omega
/-- Things, opened. -/
theorem open_things2 {H : Type} {enc : TypeId × Value → H} {W : World} {base : Nat} {v : Value} {d : DataW H} {p : List MemPlace}
    (hval : Value.okWide Try.prog W .any base 25 v) (h : DataW.Trod enc Try.prog W 0 (fun _ => true) true 25 v d p) :
    ∃ (N : Nat) (S : Int) (F : Bool) (tA : Option Addr) (tc : Nat) (tds : List UInt8), v = .agg #[.int .u64 N, .int .i64 S, .bool F, .slice tA tds.length tc] ∧ N < 2 ^ 64 ∧ -9223372036854775808 ≤ S ∧ S ≤ 9223372036854775807 ∧ tds.length ≤ Rows.uptoBulk d ∧ Src W tA tds ∧ tds.length ≤ tc := by
  obtain ⟨v0, v1, v2, v3, y0, y1, y2, y3, n, rfl, rfl, h0, h1, h2, h3⟩ := open_agg4 Try.underlying25 (by kernel_rfl) (by kernel_rfl) hval h
  obtain ⟨x0, e0, _, w0⟩ := DataW.trod_int Try.underlying22 h0
  obtain ⟨x1, e1, _, w1⟩ := DataW.trod_int Try.underlying2 h1
  obtain ⟨x2, e2, _⟩ := DataW.trod_bool Try.underlying4 h2
  obtain ⟨dA, dc, ds, rfl, hcap, hsrc, _, hlen⟩ := open_bytes1 h3
  simp at e0 e1 e2
  subst e0 e1 e2
  have b0 := bounds_u64 w0
  have b1 := bounds_i64 w1
  refine ⟨x0.toNat, x1, x2, dA, dc, ds, by rw [Int.toNat_of_nonneg b0.1], by omega, b1.1, b1.2, ?_, hsrc, hcap⟩
  rcases hlen with rfl | ⟨e', sp', he, hle⟩
  · simp
  · simp only [Rows.uptoBulk, Rows.uptoBulkAll, he]
    have := bulk_len e'
    omega

theorem own : ownKnob Try.prog.godebug = none := by kernel_rfl
theorem laidOut : laidOutB Try.prog = true := by kernel_rfl

set_option maxRecDepth 100000 in
theorem lifted (os : Os) (started : os.Started) (H : Type) (enc : TypeId × Value → H) (F0 : Stop.Interp) :
    ReturnsInHanded {} Try.checked os 3 .any ((Rows.OpenSpec.upto Rows.wireWritesSpec).pre6 enc Try.prog Try.f3 Rows.wireWritesUptoRow.domain false) (((Rows.OpenSpec.upto Rows.wireWritesSpec).at F0).post enc Try.prog Try.f3 false true false false) := by
  refine returnsInHanded_of_cond (C := Try.checked) (s := Rows.OpenSpec.upto Rows.wireWritesSpec) (k := Rows.uptoSmall) rfl own started (by kernel_rfl) Try.func3
    (OpenSpec.witness (enc := enc) (C := Try.checked) (s := Rows.OpenSpec.upto Rows.wireWritesSpec) (k := Rows.uptoSmall) rfl false ⟨#[], #[.agg #[.int .u64 0, .int .i64 0, .bool false, .slice none 0 0], .slice none 0 0], []⟩ 8 (by kernel_rfl) (by kernel_rfl) (by kernel_rfl)
      (x := ([.agg [.lit (.int .u64 0), .lit (.int .i64 0), .lit (.bool false), .nil], .nil], [], [])) (by kernel_rfl) (by kernel_rfl) (by kernel_rfl)) ?_
  intro W base args ds gs before hval0 hW hcnd hkk _
  have hval : ∀ (j : Nat) t v, Try.f3.params[j]? = some t → args[j]? = some v → Value.okWide Try.prog W .any base t v := hval0
  have hW' := hW
  obtain ⟨p, q, hA0, hV, rfl, hfz, hnd⟩ := hW
  have hA : DataW.TrodAll enc Try.prog W 0 (fun _ => true) true Try.f3.params.toList args.toList ds p := hA0
  rw [Try.params3] at hA hval
  obtain ⟨v0, vs0, d0, ds0, p0, q0, hargs, rfl, rfl, h0, r0⟩ := trodAll_cons hA
  obtain ⟨v1, vs1, d1, ds1, p1, q1, rfl, rfl, rfl, h1, r1⟩ := trodAll_cons r0
  obtain ⟨rfl, rfl, rfl⟩ := trodAll_nil r1
  obtain rfl : args = #[v0, v1] := by cases args; simp_all
  obtain ⟨rfl, rfl⟩ := trodVars_none hV
  have k0 := h0
  have k1 := h1
  have lt0 : ∀ x ∈ p0, x.block < W.heap.size := by obtain ⟨m, hm⟩ := k0; exact DataW.trod_lt m _ _ _ hm
  have lt1 : ∀ x ∈ p1, x.block < W.heap.size := by obtain ⟨m, hm⟩ := k1; exact DataW.trod_lt m _ _ _ hm
  have hbulk : Rows.uptoBulk d0 + Rows.uptoBulk d1 ≤ 1048576 := by
    have := of_decide_eq_true hkk
    simp only [List.append_nil, Rows.uptoBulkAll] at this
    omega
  obtain ⟨N, S, F, tA, tc, tds, rfl, hN, s0, s1, htl, hts, htc⟩ := open_things2 (hval 0 25 v0 rfl rfl) h0
  obtain ⟨A, c, L, rfl, hP, hL1, hL2⟩ := open_pcs (hval 1 26 v1 rfl rfl) h1
  clear hA0 hval0
  refine (writes_any N S F tA tds.length tc tds A L.length c L W hN s0 s1 rfl (by omega) hts rfl (by omega) hP (by omega)).mono fun e W' ⟨he, hg⟩ => ?_
  subst he
  have bel := hg.below
  exact ⟨_, rfl, _, _, _, [], _, [], hW', trodAll_mk1 (shut_bool Try.underlying4 _), (trodAll_cons_mk (Below.trod laidOut (by kernel_rfl) (of_decide_eq_true (by kernel_rfl)) k0 bel lt0) (trodAll_cons_mk (Below.trod laidOut (by kernel_rfl) (of_decide_eq_true (by kernel_rfl)) k1 bel lt1) trodAll_mk0)), rfl, bel.frame _, fun h => by cases h⟩

theorem over : Rows.wireWritesUptoRow.holds Try.pinned (Rows.OpenSpec.upto Rows.wireWritesSpec) :=
  OpenClaim.holds_of_cond 3 Try.f3 rfl rfl rfl rfl rfl rfl rfl ⟨rfl, rfl, rfl, rfl, rfl⟩ rfl rfl rfl rfl rfl (by kernel_rfl) Try.func3 (by kernel_rfl)
    (of_decide_eq_true (by kernel_rfl)) (by unfold Func.isWrapper; first | (rw [if_pos (by decide +kernel)]; kernel_rfl) | (rw [if_neg (by decide +kernel)]; exact ⟨rfl, rfl⟩))
    (fun os started H enc _ F0 => lifted os started H enc F0)

theorem proved : Rows.WireWritesUptoSaid := over
#print axioms proved
end Go.Proofs.Ytdaeaepfbnlaeaa.wireWrites

