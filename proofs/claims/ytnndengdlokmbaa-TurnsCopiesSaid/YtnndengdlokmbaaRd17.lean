/- Ready lists: the walk of Same; how many there are. Condition: the lists lie. -/
import Derived.Test.YtnndengdlokmbaaRd16
namespace Go.Proofs.Ytnndengdlokmbaa
open Go.RowKit Go.Shelf
set_option linter.unusedVariables false
set_option linter.all false
set_option maxRecDepth 20000

theorem nodup_lt : ∀ (n : Nat) (l : List Nat), l.Nodup → (∀ x ∈ l, x < n) → l.length ≤ n
  | 0, l, _, h => by
    cases l with
    | nil => simp
    | cons a r => exact absurd (h a (by simp)) (by omega)
  | n + 1, l, hn, h => by
    have hne : n ∉ l.erase n := fun hm => (hn.mem_erase_iff.1 hm).1 rfl
    have := nodup_lt n (l.erase n) (hn.erase n) (fun x hx => by
      have h1 := h x (List.mem_of_mem_erase hx)
      have h2 : x ≠ n := fun e => hne (e ▸ hx)
      omega)
    have hl := List.length_erase (a := n) (l := l)
    rw [hl] at this
    split at this <;> omega
section
variable {s : RS} {prio : Nat → Int} {bits : Nat} {q : Nat → List Nat}
theorem mem_below (q : Nat → List Nat) : ∀ (P : Nat) (x : Nat × Nat), x ∈ below q P ↔ x.1 < P ∧ x.2 ∈ q x.1
  | 0, x => by simp [below]
  | P + 1, x => by
    rw [below, List.mem_append, mem_below q P x]
    constructor
    · rintro (h | h)
      · obtain ⟨t, ht, rfl⟩ := List.mem_map.1 h
        exact ⟨by simp, ht⟩
      · exact ⟨by omega, h.2⟩
    · rintro ⟨h1, h2⟩
      by_cases e : x.1 = P
      · exact .inl (List.mem_map.2 ⟨x.2, e ▸ h2, by rw [← e]⟩)
      · exact .inr ⟨by omega, h2⟩
theorem Rep.nodup_below (h : Rep s prio bits q) : ∀ P, ((below q P).map (·.2)).Nodup
  | 0 => by simp [below]
  | P + 1 => by
    rw [below, List.map_append, List.nodup_append]
    refine ⟨?_, h.nodup_below P, fun a ha b hb => ?_⟩
    · rw [List.map_map]
      have : (q P).map ((fun x : Nat × Nat => x.2) ∘ fun t => (P, t)) = q P := List.map_id _
      rw [this]
      exact h.nd P
    · rintro rfl
      rw [List.map_map] at ha
      obtain ⟨t, ht, rfl⟩ := List.mem_map.1 ha
      obtain ⟨x, hx, hxe⟩ := List.mem_map.1 hb
      obtain ⟨h1, h2⟩ := (mem_below q P x).1 hx
      have hxe' : x.2 = t := hxe
      rw [hxe'] at h2
      have := h.dj _ _ t ht h2
      omega
theorem Rep.len (h : Rep s prio bits q) : (allQ q).length ≤ 16 := by
  have := nodup_lt 16 ((allQ q).map (·.2)) (h.nodup_below 32) (fun x hx => by
    obtain ⟨y, hy, rfl⟩ := List.mem_map.1 hx
    exact h.lt _ _ ((mem_below q 32 y).1 hy).2)
  simpa using this
end
theorem RL.len {w : World} {g : Nat} {q : Nat → List Nat} {st : Int} (h : RL w g q st) : (allQ q).length ≤ 16 := by
  obtain ⟨s, prio, bits, _, hR⟩ := h
  exact hR.len
theorem selQ_all (q : Nat → List Nat) (p : Nat) (hp : p < 32) : selQ (p : Int) (allQ q) = q p := by
  unfold allQ
  rw [selQ_below, if_pos hp]
theorem below_congr {q r : Nat → List Nat} : ∀ P, (∀ p, p < P → q p = r p) → below q P = below r P
  | 0, _ => rfl
  | P + 1, h => by rw [below, below, h P (by omega), below_congr P (fun p hp => h p (by omega))]
theorem allQ_iff {q r : Nat → List Nat} : allQ q = allQ r ↔ ∀ p, p < 32 → q p = r p :=
  ⟨fun h p hp => by rw [← selQ_all q p hp, ← selQ_all r p hp, h], below_congr 32⟩
/-- The cells that a slice of threads shows. -/
def Nsrc (W : World) (A : Option Addr) (l : List Nat) : Prop := 0 < l.length → ∃ g, A = some ⟨g, 0, none⟩ ∧ ∀ (j t : Nat), l[j]? = some t → W.cell? ⟨g, j, none⟩ = some (.int .i64 (t : Int))
theorem Nsrc.own {w : World} {base c : Nat} {A : Option Addr} {l : List Nat} (h : w.ownsRow base 3 1 (.slice A l.length c) l.length (NV l)) : Nsrc w A l := fun hl => by
  obtain ⟨g, rfl, hc, _⟩ := own_cell h hl
  refine ⟨g, rfl, fun j t hj => ?_⟩
  rw [hc j (by have := (List.getElem?_eq_some_iff.1 hj).1; omega)]
  exact NV_get l j t hj
theorem Nsrc.drewN {w : World} {A : Option Addr} {l : List Nat} (h : Nsrc w A l) (n : Nat) : Nsrc (w.drewN n) A l := h
theorem Nsrc.only0 {w w' : World} {A : Option Addr} {l : List Nat} (h : Nsrc w A l) (o : Only [] w w') : Nsrc w' A l := fun hl => by
  obtain ⟨g, rfl, hc⟩ := h hl
  exact ⟨g, rfl, fun j t hj => o.keep0 (hc j t hj)⟩
theorem equal_any (A B : Option Addr) (c d : Nat) (l r : List Nat) (w : World) (hA : Nsrc w A l) (hB : Nsrc w B r) (hl : l.length ≤ 1000) (hr : r.length ≤ 1000) :
    Calls Try.prog 50 #[.slice A l.length c, .slice B r.length d] w fun e w' => e = .returned (.bool (decide (l = r))) ∧ ∃ k, w' = w.drewN k := by
  by_cases hlen : l.length = r.length
  · by_cases h0 : l.length = 0
    · have e1 : l = [] := List.eq_nil_of_length_eq_zero h0
      have e2 : r = [] := List.eq_nil_of_length_eq_zero (by omega)
      subst e1 e2
      refine (Try.slices_Equal_int_empty A B c 0 d w (by omega)).mono ?_
      rintro e w' ⟨rfl, hw⟩
      exact ⟨by simp, 0, hw⟩
    · obtain ⟨ga, rfl, ha⟩ := hA (by omega)
      obtain ⟨gb, rfl, hb⟩ := hB (by omega)
      have key : ∀ (l : List Nat) (g : Nat), (∀ (j t : Nat), l[j]? = some t → w.cell? ⟨g, j, none⟩ = some (.int .i64 (t : Int))) → ∀ j, j < (l.map (fun t : Nat => (t : Int))).length → w.cell? ⟨g, 0 + j, none⟩ = some (.int .i64 ((l.map (fun t : Nat => (t : Int))).getD j 0)) := fun l g hc j hj => by
        rw [List.length_map] at hj
        rw [Nat.zero_add, hc j l[j] (List.getElem?_eq_getElem hj)]
        simp [List.getD, hj]
      refine (Try.slices_Equal_int ga 0 l.length c gb 0 r.length d (l.map fun t : Nat => (t : Int)) (r.map fun t : Nat => (t : Int)) w (by simp) (by simp) (by omega) (by omega) (key l ga ha) (key r gb hb)).mono ?_
      rintro e w' ⟨rfl, k, hk⟩
      refine ⟨?_, k, hk⟩
      congr 2
      rw [List.take_of_length_le (by simp), List.take_of_length_le (by simp)]
      have hinj : (l.map (fun t : Nat => (t : Int)) = r.map (fun t : Nat => (t : Int))) ↔ l = r := List.map_inj_right (fun a b h => by omega)
      by_cases hlr : l = r
      · simp [hlr]
      · simp [hlr, hinj]
  · refine (Try.slices_Equal_int_lens A B l.length c r.length d w hlen).mono ?_
    rintro e w' ⟨rfl, hw⟩
    refine ⟨?_, 0, hw⟩
    have : l ≠ r := fun h => hlen (by rw [h])
    simp [this]
/-- Do two tell the same sequences? -/
@[irreducible] def sameQ (q r : Nat → List Nat) : Bool := decide (allQ q = allQ r)
theorem sameQ_yes {q r : Nat → List Nat} (h : allQ q = allQ r) : sameQ q r = true := by unfold sameQ; exact decide_eq_true h
theorem sameQ_no {q r : Nat → List Nat} (h : allQ q ≠ allQ r) : sameQ q r = false := by unfold sameQ; exact decide_eq_false h
end Go.Proofs.Ytnndengdlokmbaa
