/- WireLists, at inputs of bulk at most 1048576: the law returns true. Condition: what the law reads is of bulk at most 1048576. -/
import Derived.Test.YtdaeaepfbnlaeaaWi20
import Derived.Test.YtdaeaepfbnlaeaaRows
import Derived.Deep.Slices
import Derived.ChangeSame
import Derived.ProofKit
import Derived.OpenShut
import Derived.ChangeOld
import Derived.JoinedCond
namespace Go.Proofs.Ytdaeaepfbnlaeaa.wireLists
open Go.ChangeShapes Go.WideShapes Go.ChangeAt Go.RowKit Go.Deep
set_option linter.unusedVariables false
set_option linter.all false

theorem bulk_pos {H : Type} (d : DataW H) : 1 ≤ Rows.uptoBulk d := by
  cases d with
  | lit l => cases l <;> simp [Rows.uptoBulk]
  | _ => simp [Rows.uptoBulk]
theorem bulk_len {H : Type} (l : List (DataW H)) : l.length ≤ Rows.uptoBulkAll l := by
  induction l with
  | nil => simp
  | cons d l ih => have := bulk_pos d; simp only [List.length_cons, Rows.uptoBulkAll]; omega

theorem cells22 : Try.prog.cellsOf 22 = 1 := by kernel_rfl
theorem cells51 : Try.prog.cellsOf 51 = 2 := by kernel_rfl
/-- A slice of pairs, opened. -/
theorem open_prs {H : Type} {enc : TypeId × Value → H} {W : World} {base : Nat} {v : Value} {d : DataW H} {p : List MemPlace}
    (hval : Value.okWide Try.prog W .any base 50 v) (h : DataW.Trod enc Try.prog W 0 (fun _ => true) true 50 v d p) : ∃ (A : Option Addr) (c : Nat) (L : List (Nat × Nat)), v = .slice A L.length c ∧ Prs W A L ∧ Small L ∧ L.length ≤ Rows.uptoBulk d := by
  obtain ⟨fuel, hf⟩ := h
  obtain ⟨A, n, c, rfl⟩ := okWide_slice Try.underlying50 hval
  rcases open_slice Try.underlying50 hf with ⟨hcs, hd⟩ | ⟨a, len, cap, m, nn, D, Pl, hcs, _, hl, hm, hmm, hd, hfs⟩
  · simp [Value.cells] at hcs
    obtain ⟨rfl, rfl, rfl⟩ := hcs
    exact ⟨none, 0, [], rfl, fun j x y hj => by simp at hj, fun p hp => by simp at hp, by simp⟩
  · simp [Value.cells] at hcs
    obtain ⟨rfl, rfl, rfl⟩ := hcs
    have hmk : n ≤ m := by rw [hmm]; split <;> omega
    have each : ∀ k, k < n → ∃ q : Nat × Nat, q.1 < 2 ^ 64 ∧ q.2 < 2 ^ 64 ∧ W.cell? (a.add (k * 2)) = some (.int .u64 (q.1 : Int)) ∧ W.cell? ⟨(a.add (k * 2)).block, (a.add (k * 2)).off + 1, none⟩ = some (.int .u64 (q.2 : Int)) := by
      intro k hk
      obtain ⟨cs', hc, ht⟩ := hfs k (by omega)
      rw [cells51] at hc
      obtain ⟨_, hcl, hat⟩ := World.cells?_some hc
      obtain ⟨xs, mm, _, _, _, hxl, hi⟩ := DataW.trod_array Try.underlying51 ht
      obtain ⟨c0, c1, rfl⟩ : ∃ c0 c1, cs' = [c0, c1] := by
        match cs', hcl with
        | [c0, c1], _ => exact ⟨c0, c1, rfl⟩
      have h0 := hi 0 (by omega)
      have h1 := hi 1 (by omega)
      rw [cells22] at h0 h1
      rw [List.getElem?_eq_getElem (by omega)] at h0 h1
      obtain ⟨x0, e0, _, f0⟩ := DataW.trod_int Try.underlying22 h0
      obtain ⟨x1, e1, _, f1⟩ := DataW.trod_int Try.underlying22 h1
      simp at e0 e1
      subst e0 e1
      have b0 := bounds_u64 f0
      have b1 := bounds_u64 f1
      have z0 := hat 0 (by omega)
      have z1 := hat 1 (by omega)
      simp only [List.getElem?_cons_zero, List.getElem?_cons_succ] at z0 z1
      refine ⟨(x0.toNat, x1.toNat), by simp only; omega, by simp only; omega, ?_, ?_⟩
      · simp only
        rw [Int.toNat_of_nonneg b0.1, ← z0]
        rw [Go.Deep.add_add]
        rfl
      · simp only
        rw [Int.toNat_of_nonneg b1.1]
        exact z1
    obtain ⟨V, hV⟩ := choose_lt (α := Nat × Nat) (n := n) (p := fun k q => q.1 < 2 ^ 64 ∧ q.2 < 2 ^ 64 ∧ W.cell? (a.add (k * 2)) = some (.int .u64 (q.1 : Int)) ∧ W.cell? ⟨(a.add (k * 2)).block, (a.add (k * 2)).off + 1, none⟩ = some (.int .u64 (q.2 : Int))) each
    refine ⟨some a, c, (List.range n).map V, by simp, ?_, ?_, ?_⟩
    · intro j x y hj
      rw [List.getElem?_map] at hj
      obtain ⟨k, hk, he⟩ := Option.map_eq_some_iff.1 hj
      obtain ⟨hkl, hke⟩ := List.getElem?_eq_some_iff.1 hk
      simp at hkl hke
      subst hke
      have hv := hV j hkl
      rw [he] at hv
      exact ⟨hv.1, hv.2.1, a, rfl, hv.2.2⟩
    · intro p hp
      obtain ⟨k, hk, rfl⟩ := List.mem_map.1 hp
      have := hV k (List.mem_range.1 hk)
      exact ⟨this.1, this.2.1⟩
    · simp only [Prod.mk.injEq] at hd
      rw [hd.1]
      simp only [Rows.uptoBulk, List.length_map, List.length_range]
      have := bulk_len ((List.range n).map D)
      simp only [List.length_map, List.length_range] at this
      omega

theorem own : ownKnob Try.prog.godebug = none := by kernel_rfl
theorem laidOut : laidOutB Try.prog = true := by kernel_rfl

set_option maxRecDepth 100000 in
theorem lifted (os : Os) (started : os.Started) (H : Type) (enc : TypeId × Value → H) (F0 : Stop.Interp) :
    ReturnsInHanded {} Try.checked os 5 .any ((Rows.OpenSpec.upto Rows.wireListsSpec).pre6 enc Try.prog Try.f5 Rows.wireListsUptoRow.domain false) (((Rows.OpenSpec.upto Rows.wireListsSpec).at F0).post enc Try.prog Try.f5 false true false false) := by
  refine returnsInHanded_of_cond (C := Try.checked) (s := Rows.OpenSpec.upto Rows.wireListsSpec) (k := Rows.uptoSmall) rfl own started (by kernel_rfl) Try.func5
    (OpenSpec.witness (enc := enc) (C := Try.checked) (s := Rows.OpenSpec.upto Rows.wireListsSpec) (k := Rows.uptoSmall) rfl false ⟨#[], #[.slice none 0 0, .int .i64 0], []⟩ 8 (by kernel_rfl) (by kernel_rfl) (by kernel_rfl)
      (x := ([.nil, .lit (.int .i64 0)], [], [])) (by kernel_rfl) (by kernel_rfl) (by kernel_rfl)) ?_
  intro W base args ds gs before hval0 hW hcnd hkk _
  have hval : ∀ (j : Nat) t v, Try.f5.params[j]? = some t → args[j]? = some v → Value.okWide Try.prog W .any base t v := hval0
  have hW' := hW
  obtain ⟨p, q, hA0, hV, rfl, hfz, hnd⟩ := hW
  have hA : DataW.TrodAll enc Try.prog W 0 (fun _ => true) true Try.f5.params.toList args.toList ds p := hA0
  rw [Try.params5] at hA hval
  obtain ⟨v0, vs0, d0, ds0, p0, q0, hargs, rfl, rfl, h0, r0⟩ := trodAll_cons hA
  obtain ⟨v1, vs1, d1, ds1, p1, q1, rfl, rfl, rfl, h1, r1⟩ := trodAll_cons r0
  obtain ⟨rfl, rfl, rfl⟩ := trodAll_nil r1
  obtain rfl : args = #[v0, v1] := by cases args; simp_all
  obtain ⟨rfl, rfl⟩ := trodVars_none hV
  have k0 := h0
  have lt0 : ∀ x ∈ p0, x.block < W.heap.size := by obtain ⟨m, hm⟩ := k0; exact DataW.trod_lt m _ _ _ hm
  have hbulk : Rows.uptoBulk d0 ≤ 1048576 := by
    have := of_decide_eq_true hkk
    simp only [List.append_nil, Rows.uptoBulkAll] at this
    omega
  obtain ⟨A, c, L, rfl, hP, hS, hlen⟩ := open_prs (hval 0 50 v0 rfl rfl) h0
  obtain ⟨cut, rfl, rfl, rfl, w1⟩ := open_int Try.underlying3 (hval 1 3 v1 rfl rfl) h1
  have b1 := bounds_i64 w1
  clear hA0 hval0
  refine (lists_any A L.length c L cut W rfl (by omega) hP hS b1.1 b1.2).mono fun e W' ⟨he, hg⟩ => ?_
  subst he
  have bel := hg.below
  exact ⟨_, rfl, _, _, _, [], _, [], hW', trodAll_mk1 (shut_bool Try.underlying4 _), (trodAll_cons_mk (Below.trod laidOut (by kernel_rfl) (of_decide_eq_true (by kernel_rfl)) k0 bel lt0) (trodAll_cons_mk (shut_int Try.underlying3 w1) trodAll_mk0)), rfl, bel.frame _, fun h => by cases h⟩

theorem over : Rows.wireListsUptoRow.holds Try.pinned (Rows.OpenSpec.upto Rows.wireListsSpec) :=
  OpenClaim.holds_of_cond 5 Try.f5 rfl rfl rfl rfl rfl rfl rfl ⟨rfl, rfl, rfl, rfl, rfl⟩ rfl rfl rfl rfl rfl (by kernel_rfl) Try.func5 (by kernel_rfl)
    (of_decide_eq_true (by kernel_rfl)) (by unfold Func.isWrapper; first | (rw [if_pos (by decide +kernel)]; kernel_rfl) | (rw [if_neg (by decide +kernel)]; exact ⟨rfl, rfl⟩))
    (fun os started H enc _ F0 => lifted os started H enc F0)

theorem proved : Rows.WireListsUptoSaid := over
#print axioms proved
end Go.Proofs.Ytdaeaepfbnlaeaa.wireLists

