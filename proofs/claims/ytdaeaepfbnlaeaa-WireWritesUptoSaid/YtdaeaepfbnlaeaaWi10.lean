/- Wire's law: the arguments opened. No condition. -/
import Derived.Test.YtdaeaepfbnlaeaaWi8
import Derived.Deep.Slices
import Derived.Deep.Fields
import Derived.ChangeSame
import Derived.ProofKit
import Derived.OpenShut
import Derived.ChangeOld
import Derived.SizedLaws
namespace Go.Proofs.Ytdaeaepfbnlaeaa
open Go.ChangeShapes Go.WideShapes Go.ChangeAt Go.RowKit Go.Deep
set_option linter.unusedVariables false
set_option linter.all false

section
variable {H : Type} {enc : TypeId × Value → H} {P : Program} {w : World} {base : Nat} {spare : Nat → Bool} {held : Bool}
theorem open_agg4 {r : Reach} {b0 : Nat} {t : TypeId} {f0 f1 f2 f3 : Field} {v : Value} {d : DataW H} {p : List MemPlace} (hs : P.underlying t = some (.struct #[f0, f1, f2, f3])) (hone : oneCellFields P #[f0, f1, f2, f3] = true) (hC : P.cellsOf t = 4)
    (hv : Value.okWide P w r b0 t v) (h : DataW.Trod enc P w base spare held t v d p) :
    ∃ (v0 v1 v2 v3 : Value) (y0 y1 y2 y3 : DataW H × List MemPlace) (n : Nat), v = .agg #[v0, v1, v2, v3] ∧ d = .agg [y0.1, y1.1, y2.1, y3.1] ∧
      DataW.trod enc P w base spare held n f0.type [v0] = some y0 ∧ DataW.trod enc P w base spare held n f1.type [v1] = some y1 ∧ DataW.trod enc P w base spare held n f2.type [v2] = some y2 ∧ DataW.trod enc P w base spare held n f3.type [v3] = some y3 := by
  obtain ⟨cs, rfl, hsz⟩ := okWide_struct hs hv
  obtain ⟨l⟩ := cs
  match l, hsz.trans hC with
  | [c0, c1, c2, c3], _ =>
    obtain ⟨fuel, hf⟩ := h
    obtain ⟨xs, n, _, hx, _, hlen, hg⟩ := DataW.trod_struct hs hf
    obtain ⟨o0, k0⟩ := hone_of hone 0 f0 rfl
    obtain ⟨o1, k1⟩ := hone_of hone 1 f1 rfl
    obtain ⟨o2, k2⟩ := hone_of hone 2 f2 rfl
    obtain ⟨o3, k3⟩ := hone_of hone 3 f3 rfl
    match xs, hlen with
    | [y0, y1, y2, y3], _ =>
      simp only [Prod.mk.injEq] at hx
      exact ⟨c0, c1, c2, c3, y0, y1, y2, y3, n, rfl, by simpa using hx.1, by simpa [Value.cells, o0, k0] using hg 0 f0 rfl, by simpa [Value.cells, o1, k1] using hg 1 f1 rfl, by simpa [Value.cells, o2, k2] using hg 2 f2 rfl, by simpa [Value.cells, o3, k3] using hg 3 f3 rfl⟩
end
theorem bytes5 : Try.prog.bytesOf 5 = 1 := by kernel_rfl

/-- A slice of bytes, opened. -/
theorem open_bytes1 {H : Type} {enc : TypeId × Value → H} {w : World} {fuel : Nat} {v : Value} {y : DataW H × List MemPlace} (h : DataW.trod enc Try.prog w 0 (fun _ => true) true fuel 23 [v] = some y) :
    ∃ (dA : Option Addr) (dc : Nat) (ds : List UInt8), v = .slice dA ds.length dc ∧ ds.length ≤ dc ∧ Src w dA ds ∧ (0 < ds.length → ∀ ad, dA = some ad → ad.spot = none ∧ ad.block < w.heap.size) ∧
      (ds = [] ∨ ∃ e' sp', y.1 = .slice e' sp' ∧ ds.length ≤ e'.length) := by
  rcases open_ints Try.underlying23 Try.underlying5 (by kernel_rfl) h with ⟨hv, _⟩ | ⟨a, len, cap, zs, hv, _, hl, hm, hz, hy, hc, hwf⟩
  · obtain rfl : v = .slice none 0 0 := by simpa using hv
    exact ⟨none, 0, [], rfl, Nat.le_refl _, Src.nil _ _, fun h => by simp at h, .inl rfl⟩
  · obtain rfl : v = .slice (some a) len cap := by simpa using hv
    have hzl : zs.length = cap := by simpa using hz
    have hsrc : ∀ j u, (U8s ((zs.take len).map fun z => UInt8.ofNat z.toNat))[j]? = some u → w.cell? (a.add j) = some u := by
      intro j u hj
      have hjl : j < (U8s ((zs.take len).map fun z => UInt8.ofNat z.toNat)).length := (List.getElem?_eq_some_iff.1 hj).1
      rw [length_U8s, List.length_map, List.length_take] at hjl
      have hjz : j < zs.length := by omega
      have h1 := hc j hjz
      have h2 := hwf (zs.getD j 0) (by rw [List.getD_eq_getElem?_getD, List.getElem?_eq_getElem hjz]; exact List.getElem_mem hjz)
      rw [h1, ← hj]
      simp only [U8s, List.map_map, List.getElem?_map, List.getElem?_take_of_lt (by omega : j < len), List.getElem?_eq_getElem hjz, Option.map_some]
      rw [List.getD_eq_getElem?_getD, List.getElem?_eq_getElem hjz] at h2 ⊢
      simp only [Option.getD_some] at h2 ⊢
      simp only [Function.comp, U8]
      congr 1
      have hb := bounds_u8 h2
      have : (UInt8.ofNat zs[j].toNat).toNat = zs[j].toNat := by simp; omega
      rw [this]
      congr 1
      omega
    refine ⟨some a, cap, (zs.take len).map fun z => UInt8.ofNat z.toNat, by simp; omega, by simp; omega, fun _ => ⟨a, rfl, hsrc⟩, fun hp ad had => ?_, .inr ⟨_, _, by rw [hy], by simp [lits]⟩⟩
    obtain rfl : a = ad := by simpa using had
    have hp' : 0 < zs.length := by simp at hp; omega
    have h1 := hc 0 hp'
    exact ⟨by simpa [Addr.add] using World.cell?_spot h1, by have := World.block_lt_of_cell? w _ h1; rwa [block_of_add] at this⟩
theorem sized_bytes {H : Type} {ts : List TypeId} {ds : List (DataW H)} (h : (DataW.weightsEach Try.prog ts ds).all (· ≤ reachBytes) = true) {j : Nat} {e' sp' : List (DataW H)} (ht : ts[j]? = some 23) (hd : ds[j]? = some (.slice e' sp')) : e'.length ≤ 140737488351232 := by
  have h1 := sized_slice h ht hd Try.underlying23
  rw [bytes5] at h1
  have : reachBytes = 140737488351232 := rfl
  omega
theorem sized_things {H : Type} {ts : List TypeId} {ds : List (DataW H)} (h : (DataW.weightsEach Try.prog ts ds).all (· ≤ reachBytes) = true) {j : Nat} {parts e' sp' : List (DataW H)}
    (ht : ts[j]? = some 25) (hd : ds[j]? = some (.agg parts)) (hp : parts[3]? = some (.slice e' sp')) : e'.length ≤ 140737488351232 := by
  have h1 : (e'.length + sp'.length) * Try.prog.bytesOf 5 ≤ reachBytes := by
    refine of_decide_eq_true (List.all_eq_true.1 h _ (DataW.weights_mem_each ht hd _ ?_))
    simp only [DataW.weights, Try.underlying25]
    refine DataW.weights_mem_each (j := 3) (t := 23) rfl hp _ ?_
    simp [DataW.weights, Try.underlying23]
  rw [bytes5] at h1
  have : reachBytes = 140737488351232 := rfl
  omega

/-- Things, opened. -/
theorem open_things {H : Type} {enc : TypeId × Value → H} {W : World} {ts : List TypeId} {dl : List (DataW H)} (hsz : (DataW.weightsEach Try.prog ts dl).all (· ≤ reachBytes) = true) {j base : Nat} {v : Value} {d : DataW H} {p : List MemPlace}
    (ht : ts[j]? = some 25) (hd : dl[j]? = some d) (hval : Value.okWide Try.prog W .any base 25 v) (h : DataW.Trod enc Try.prog W 0 (fun _ => true) true 25 v d p) :
    ∃ (N : Nat) (S : Int) (F : Bool) (tA : Option Addr) (tc : Nat) (tds : List UInt8), v = .agg #[.int .u64 N, .int .i64 S, .bool F, .slice tA tds.length tc] ∧ N < 2 ^ 64 ∧ -9223372036854775808 ≤ S ∧ S ≤ 9223372036854775807 ∧ tds.length ≤ 140737488351232 ∧ Src W tA tds ∧ tds.length ≤ tc := by
  obtain ⟨v0, v1, v2, v3, y0, y1, y2, y3, n, rfl, rfl, h0, h1, h2, h3⟩ := open_agg4 Try.underlying25 (by kernel_rfl) (by kernel_rfl) hval h
  obtain ⟨x0, e0, _, w0⟩ := DataW.trod_int Try.underlying22 h0
  obtain ⟨x1, e1, _, w1⟩ := DataW.trod_int Try.underlying2 h1
  obtain ⟨x2, e2, _⟩ := DataW.trod_bool Try.underlying4 h2
  obtain ⟨dA, dc, ds, rfl, hcap, hsrc, _, hlen⟩ := open_bytes1 h3
  simp at e0 e1 e2
  subst e0 e1 e2
  have b0 := bounds_u64 w0
  have b1 := bounds_i64 w1
  have hlen' : ds.length ≤ 140737488351232 := by
    rcases hlen with rfl | ⟨e', sp', he, hle⟩
    · simp
    · have := sized_things hsz (j := j) (parts := [y0.1, y1.1, y2.1, y3.1]) (e' := e') (sp' := sp') ht hd (by simp [he])
      omega
  exact ⟨x0.toNat, x1, x2, dA, dc, ds, by rw [Int.toNat_of_nonneg b0.1], by omega, b1.1, b1.2, hlen', hsrc, hcap⟩
theorem open_bytes {H : Type} {enc : TypeId × Value → H} {W : World} {ts : List TypeId} {dl : List (DataW H)} (hsz : (DataW.weightsEach Try.prog ts dl).all (· ≤ reachBytes) = true) {j base : Nat} {v : Value} {d : DataW H} {p : List MemPlace}
    (ht : ts[j]? = some 23) (hd : dl[j]? = some d) (hval : Value.okWide Try.prog W .any base 23 v) (h : DataW.Trod enc Try.prog W 0 (fun _ => true) true 23 v d p) :
    ∃ (tA : Option Addr) (tc : Nat) (tds : List UInt8), v = .slice tA tds.length tc ∧ tds.length ≤ 140737488351232 ∧ Src W tA tds ∧ tds.length ≤ tc := by
  obtain ⟨fuel, hf⟩ := h
  obtain ⟨A, n, c, rfl⟩ := okWide_slice Try.underlying23 hval
  obtain ⟨dA, dc, ds, he, hcap, hsrc, _, hlen⟩ := open_bytes1 (v := .slice A n c) hf
  refine ⟨dA, dc, ds, he, ?_, hsrc, hcap⟩
  rcases hlen with rfl | ⟨e', sp', he', hle⟩
  · simp
  · have := sized_bytes hsz (j := j) (e' := e') (sp' := sp') ht (by rw [hd]; exact congrArg some he')
    omega
end Go.Proofs.Ytdaeaepfbnlaeaa
