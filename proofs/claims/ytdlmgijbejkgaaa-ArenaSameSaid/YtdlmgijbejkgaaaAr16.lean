/- Arena's law: the script's slice opened. No condition. -/
import Derived.Test.YtdlmgijbejkgaaaAr13
import Derived.Deep.Slices
import Derived.Deep.Fields
import Derived.ChangeSame
import Derived.ProofKit
import Derived.OpenShut
import Derived.ChangeOld
import Derived.SizedLaws
namespace Go.Proofs.Ytdlmgijbejkgaaa
open Go.ChangeShapes Go.WideShapes Go.ChangeAt Go.RowKit Go.Deep
set_option linter.unusedVariables false
set_option linter.all false

section
variable {H : Type} {enc : TypeId × Value → H} {P : Program} {w : World} {base : Nat} {spare : Nat → Bool} {held : Bool}
theorem open_slice_fields {t e : TypeId} {fs : Array Field} {fuel : Nat} {cs : List Value} {x : DataW H × List MemPlace} (ht : P.underlying t = some (.slice e)) (he : P.underlying e = some (.struct fs))
    (hone : oneCellFields P fs = true) (hC : P.cellsOf e = fs.size) (h : DataW.trod enc P w base spare held fuel t cs = some x) :
    (cs = [.slice none 0 0] ∧ x = (.nil, [])) ∨
    ∃ (a : Addr) (len cap m : Nat) (D : Nat → DataW H) (Pl : Nat → List MemPlace), cs = [.slice (some a) len cap] ∧ base ≤ a.block ∧ len ≤ cap ∧ cap ≤ maxLen ∧ m = (if spare a.block then cap else len) ∧
      x = (.slice ((List.range len).map D) ((List.range (m - len)).map fun j => D (len + j)), MemPlace.row a (m * fs.size) ++ (List.range m).flatMap Pl) ∧
      ∀ i, i < m → ∃ (ys : List (DataW H × List MemPlace)) (n : Nat), D i = .agg (ys.map (·.1)) ∧ Pl i = ys.flatMap (·.2) ∧ ys.length = fs.size ∧
        ∀ (j : Nat) (f : Field), fs[j]? = some f → ∃ (v : Value) (y : DataW H × List MemPlace), w.cell? (a.add (i * fs.size + j)) = some v ∧ ys[j]? = some y ∧ DataW.trod enc P w base spare held n f.type [v] = some y := by
  rcases open_slice ht h with h0 | ⟨a, len, cap, m, n, D, Pl, hcs, hb, hl, hm, hmm, hx, hi⟩
  · exact .inl h0
  · refine .inr ⟨a, len, cap, m, D, Pl, hcs, hb, hl, hm, hmm, by rw [hC] at hx; exact hx, fun i him => ?_⟩
    obtain ⟨cs', hc, ht'⟩ := hi i him
    rw [hC] at hc
    obtain ⟨ys, n', hn', hy, hlen, hyl, hf⟩ := DataW.trod_struct he ht'
    obtain ⟨_, hcl, hat⟩ := World.cells?_some hc
    simp only [Prod.mk.injEq] at hy
    refine ⟨ys, n', hy.1, hy.2, hyl, fun j f hj => ?_⟩
    obtain ⟨ho, hk⟩ := hone_of hone j f hj
    have hjl : j < fs.size := (Array.getElem?_eq_some_iff.1 hj).1
    have hcell := hat j hjl
    have hv : cs'[j]? = some (cs'[j]'(by omega)) := List.getElem?_eq_getElem (by omega)
    have h1 := hf j f hj
    rw [ho, hk] at h1
    have hone' : (cs'.drop j).take 1 = [cs'[j]'(by omega)] := by
      rw [List.drop_eq_getElem_cons (by omega)]
      rfl
    rw [hone'] at h1
    have hys : ys[j]? = some (ys[j]'(by omega)) := List.getElem?_eq_getElem (by omega)
    refine ⟨_, _, ?_, hys, h1.trans hys⟩
    rw [← Go.Deep.add_add, hcell, hv]
end


theorem weightsAll_mem {H : Type} {P : Program} {e : TypeId} : ∀ {l : List (DataW H)} {d : DataW H}, d ∈ l → ∀ n ∈ d.weights P e, n ∈ DataW.weightsAll P e l
  | d' :: r, d, hd, n, hn => by
    simp only [DataW.weightsAll, List.mem_append]
    rcases List.mem_cons.1 hd with rfl | h
    · exact Or.inl hn
    · exact Or.inr (weightsAll_mem h n hn)
theorem bytes5 : Try.prog.bytesOf 5 = 1 := by kernel_rfl

/-- The data of a step: at most as long as the form's reach. -/
theorem sized_data {H : Type} {ts : List TypeId} {ds : List (DataW H)} (h : (DataW.weightsEach Try.prog ts ds).all (· ≤ reachBytes) = true) {j : Nat} {elems spare parts e' sp' : List (DataW H)}
    (ht : ts[j]? = some 42) (hd : ds[j]? = some (.slice elems spare)) (hx : DataW.agg parts ∈ elems) (hp : parts[4]? = some (.slice e' sp')) : e'.length + sp'.length ≤ 140737488351232 := by
  have h1 : (e'.length + sp'.length) * Try.prog.bytesOf 5 ≤ reachBytes := by
    refine of_decide_eq_true (List.all_eq_true.1 h _ (DataW.weights_mem_each ht hd _ ?_))
    simp only [DataW.weights, Try.underlying42, List.mem_cons, List.mem_append]
    refine Or.inr (Or.inl (weightsAll_mem hx _ ?_))
    simp only [DataW.weights, Try.underlying47]
    refine DataW.weights_mem_each (j := 4) (t := 36) rfl hp _ ?_
    simp [DataW.weights, Try.underlying36]
  rw [bytes5] at h1
  have : reachBytes = 140737488351232 := rfl
  omega

/-- A slice of bytes, opened. -/
theorem open_bytes1 {H : Type} {enc : TypeId × Value → H} {w : World} {fuel : Nat} {v : Value} {y : DataW H × List MemPlace} (h : DataW.trod enc Try.prog w 0 (fun _ => true) true fuel 36 [v] = some y) :
    ∃ (dA : Option Addr) (dc : Nat) (ds : List UInt8), v = .slice dA ds.length dc ∧ Src w dA ds ∧ (0 < ds.length → ∀ ad, dA = some ad → ad.spot = none ∧ ad.block < w.heap.size) ∧
      (ds = [] ∨ ∃ e' sp', y.1 = .slice e' sp' ∧ ds.length ≤ e'.length) := by
  rcases open_ints Try.underlying36 Try.underlying5 (by kernel_rfl) h with ⟨hv, _⟩ | ⟨a, len, cap, zs, hv, _, hl, hm, hz, hy, hc, hwf⟩
  · obtain rfl : v = .slice none 0 0 := by simpa using hv
    exact ⟨none, 0, [], rfl, Src.nil _ _, fun h => by simp at h, .inl rfl⟩
  · obtain rfl : v = .slice (some a) len cap := by simpa using hv
    have hzl : zs.length = cap := by simpa using hz
    have hsrc : ∀ j u, (U8s ((zs.take len).map fun z => UInt8.ofNat z.toNat))[j]? = some u → w.cell? (a.add j) = some u := by
      intro j u hj
      have hjl : j < (U8s ((zs.take len).map fun z => UInt8.ofNat z.toNat)).length := (List.getElem?_eq_some_iff.1 hj).1
      rw [length_U8s, List.length_map, List.length_take] at hjl
      have hjz : j < zs.length := by omega
      have h1 := hc j hjz
      have h2 := hwf (zs.getD j 0) (by rw [List.getD_eq_getElem?_getD, List.getElem?_eq_getElem hjz]; exact List.getElem_mem hjz)
      rw [h1, ← hj]
      simp only [U8s, List.map_map, List.getElem?_map, List.getElem?_take_of_lt (by omega : j < len), List.getElem?_eq_getElem hjz, Option.map_some]
      rw [List.getD_eq_getElem?_getD, List.getElem?_eq_getElem hjz] at h2 ⊢
      simp only [Option.getD_some] at h2 ⊢
      simp only [Function.comp, U8]
      congr 1
      have hb := bounds_u8 h2
      have : (UInt8.ofNat zs[j].toNat).toNat = zs[j].toNat := by simp; omega
      rw [this]
      congr 1
      omega
    refine ⟨some a, cap, (zs.take len).map fun z => UInt8.ofNat z.toNat, by simp; omega, fun _ => ⟨a, rfl, hsrc⟩, fun hp ad had => ?_, .inr ⟨_, _, by rw [hy], by simp [lits]⟩⟩
    obtain rfl : a = ad := by simpa using had
    have hp' : 0 < zs.length := by simp at hp; omega
    have h1 := hc 0 hp'
    exact ⟨by simpa [Addr.add] using World.cell?_spot h1, by have := World.block_lt_of_cell? w _ h1; rwa [block_of_add] at this⟩

theorem open_script {H : Type} {enc : TypeId × Value → H} {W : World} {ts : List TypeId} {dl : List (DataW H)} (hsz : (DataW.weightsEach Try.prog ts dl).all (· ≤ reachBytes) = true) {j base : Nat} {v : Value} {d : DataW H} {p : List MemPlace}
    (ht : ts[j]? = some 42) (hd : dl[j]? = some d) (hval : Value.okWide Try.prog W .any base 42 v) (h : DataW.Trod enc Try.prog W 0 (fun _ => true) true 42 v d p) : ∃ (A : Option Addr) (n c : Nat), v = .slice A n c ∧ Script W.heap.size W A n := by
  obtain ⟨fuel, hf⟩ := h
  obtain ⟨A, n, c, rfl⟩ := okWide_slice Try.underlying42 hval
  refine ⟨A, n, c, rfl, ?_⟩
  rcases open_slice_fields Try.underlying42 Try.underlying47 (by kernel_rfl) (by kernel_rfl) hf with ⟨hcs, _⟩ | ⟨a, len, cap, m, D, Pl, hcs, _, hl, hm, hmm, hx, hfs⟩
  · simp [Value.cells] at hcs
    obtain ⟨rfl, rfl, rfl⟩ := hcs
    exact fun k hk => by omega
  · simp [Value.cells] at hcs
    obtain ⟨rfl, rfl, rfl⟩ := hcs
    intro k hk
    have hmk : n ≤ m := by rw [hmm]; split <;> omega
    obtain ⟨ys, nn, hD, _, hyl, hf2⟩ := hfs k (by omega)
    obtain ⟨u0, y0, hc0, _, ht0⟩ := hf2 0 _ rfl
    obtain ⟨u1, y1, hc1, _, ht1⟩ := hf2 1 _ rfl
    obtain ⟨u2, y2, hc2, _, ht2⟩ := hf2 2 _ rfl
    obtain ⟨u3, y3, hc3, _, ht3⟩ := hf2 3 _ rfl
    obtain ⟨u4, y4, hc4, hy4, ht4⟩ := hf2 4 _ rfl
    obtain ⟨x0, e0, _⟩ := DataW.trod_int Try.underlying3 ht0
    obtain ⟨x1, e1, _, w1⟩ := DataW.trod_int Try.underlying3 ht1
    obtain ⟨x2, e2, _, w2⟩ := DataW.trod_int Try.underlying3 ht2
    obtain ⟨x3, e3, _, w3⟩ := DataW.trod_int Try.underlying23 ht3
    obtain ⟨dA, dc, ds, rfl, hsrc, hold, hlen⟩ := open_bytes1 ht4
    simp at e0 e1 e2 e3
    subst e0 e1 e2 e3
    have b1 := bounds_i64 w1
    have b2 := bounds_i64 w2
    obtain ⟨word, rfl, hw⟩ : ∃ word : Nat, x3 = word ∧ word < 4294967296 := by
      have := bounds_u32 w3
      exact ⟨x3.toNat, by omega, by omega⟩
    have hlen' : ds.length ≤ 140737488351232 := by
      rcases hlen with rfl | ⟨e', sp', he, hle⟩
      · simp
      · have h1 := hx
        simp only [Prod.mk.injEq] at h1
        have := sized_data hsz (j := j) (elems := (List.range n).map D) (parts := ys.map (·.1)) (e' := e') (sp' := sp') ht (by rw [hd, h1.1]) (List.mem_map.2 ⟨k, List.mem_range.2 hk, hD⟩) (by rw [List.getElem?_map, hy4]; exact congrArg some he)
        omega
    have hc0' : W.cell? (a.add (k * 5)) = some (.int .i64 x0) := hc0
    have q1 : W.cell? ⟨(a.add (k * 5)).block, (a.add (k * 5)).off + 1, none⟩ = some (.int .i64 x1) := by
      have hu := hc1
      rw [← Go.Deep.add_add] at hu
      exact hu
    have q2 : W.cell? ⟨(a.add (k * 5)).block, (a.add (k * 5)).off + 2, none⟩ = some (.int .i64 x2) := by
      have hu := hc2
      rw [← Go.Deep.add_add] at hu
      exact hu
    have q3 : W.cell? ⟨(a.add (k * 5)).block, (a.add (k * 5)).off + 3, none⟩ = some (.int .u32 word) := by
      have hu := hc3
      rw [← Go.Deep.add_add] at hu
      exact hu
    have q4 : W.cell? ⟨(a.add (k * 5)).block, (a.add (k * 5)).off + 4, none⟩ = some (.slice dA ds.length dc) := by
      have hu := hc4
      rw [← Go.Deep.add_add] at hu
      exact hu
    exact ⟨a, ⟨x0, x1, x2, word, dA, dc, ds⟩, rfl, by have := World.block_lt_of_cell? W _ hc0'; rwa [block_of_add] at this, ⟨b1.1, b1.2, b2.1, b2.2, hw, hlen', hsrc, hold⟩, hc0', q1, q2, q3, q4⟩
end Go.Proofs.Ytdlmgijbejkgaaa
