/- Wire: lists of pairs, the plain laws; the law's own copy. No condition. -/
import Derived.Test.YtdaeaepfbnlaeaaWi18
namespace Go.Proofs.Ytdaeaepfbnlaeaa
open Go.RowKit
set_option linter.unusedVariables false
set_option linter.all false
set_option maxRecDepth 20000

def Small (L : List (Nat × Nat)) : Prop := ∀ p ∈ L, p.1 < 2 ^ 64 ∧ p.2 < 2 ^ 64
theorem formsF_cons (p : Nat × Nat) (L : List (Nat × Nat)) : formsF (p :: L) = formF p ++ formsF L := by simp [formsF]
theorem formsF_append (L M : List (Nat × Nat)) : formsF (L ++ M) = formsF L ++ formsF M := by simp [formsF]
theorem formsF_len {L : List (Nat × Nat)} (h : Small L) : (formsF L).length ≤ 20 * L.length := by
  induction L with
  | nil => simp [formsF]
  | cons p L ih =>
    obtain ⟨x, y⟩ := p
    have h1 : (formF (x, y)).length ≤ 20 := formF_len (h (x, y) (by simp)).1 (h (x, y) (by simp)).2
    have h2 := ih fun q hq => h q (by simp [hq])
    rw [formsF_cons, List.length_append, List.length_cons]
    omega
theorem resP_back {x y : Nat} (hx : x < 2 ^ 64) (hy : y < 2 ^ 64) (rest : List UInt8) : resP (formF (x, y) ++ rest) = ((x, y), (0 : Int), (formF (x, y)).length) := by
  unfold resP formF
  simp only
  rw [List.append_assoc, resN_back x hx]
  simp only [if_true]
  rw [List.drop_left, resN_back y hy, List.length_append]
theorem rdP_back (L : List (Nat × Nat)) (hL : Small L) (rest : List UInt8) : ∀ i, i ≤ L.length → rdP i (formsF L ++ rest) = some (L.take i, (formsF (L.take i)).length) := by
  intro i
  induction i with
  | zero => intro _; simp [rdP, formsF]
  | succ i ih =>
    intro hi
    obtain ⟨⟨x, y⟩, hp⟩ : ∃ p, L[i]? = some p := ⟨_, List.getElem?_eq_getElem (by omega)⟩
    have hm := hL _ (List.mem_of_getElem? hp)
    have hsplit : formsF L ++ rest = formsF (L.take i) ++ (formF (x, y) ++ (formsF (L.drop (i + 1)) ++ rest)) := by
      have : L = L.take i ++ ((x, y) :: L.drop (i + 1)) := by
        obtain ⟨hl, he⟩ := List.getElem?_eq_some_iff.1 hp
        rw [← he, ← List.drop_eq_getElem_cons hl, List.take_append_drop]
      conv => lhs; rw [this]
      rw [formsF_append, formsF_cons, List.append_assoc, List.append_assoc]
    have hd : (formsF L ++ rest).drop (formsF (L.take i)).length = formF (x, y) ++ (formsF (L.drop (i + 1)) ++ rest) := by rw [hsplit, List.drop_left]
    simp only [rdP, ih (by omega), hd, resP_back hm.1 hm.2, if_true]
    rw [formsF_take_succ L i (x, y) hp, List.length_append, List.take_add_one, hp]
    rfl
theorem rdP_full (L : List (Nat × Nat)) (hL : Small L) (rest : List UInt8) : rdP L.length (formsF L ++ rest) = some (L, (formsF L).length) := by
  rw [rdP_back L hL rest L.length (Nat.le_refl _), List.take_length]
theorem rdN_mono : ∀ (l r : List UInt8) (i acc : Nat) (q : Nat × Nat), rdN l i acc = some q → rdN (l ++ r) i acc = some q := by
  intro l
  induction l with
  | nil => intro r i acc q h; simp [rdN] at h
  | cons c l ih =>
    intro r i acc q h
    simp only [List.cons_append, rdN] at h ⊢
    split at h
    · cases h
    · rename_i hg
      rw [if_neg hg]
      split at h
      · rename_i hlt
        rw [if_pos hlt]; exact h
      · rename_i hlt
        rw [if_neg hlt]; exact ih r _ _ q h
theorem resN_mono (l r : List UInt8) (h : (resN l).2.1 = 0) : resN (l ++ r) = resN l := by
  unfold resN at h ⊢
  cases h1 : rdN l 0 0 with
  | none => rw [h1] at h; exact absurd h (by decide)
  | some q => rw [rdN_mono l r 0 0 q h1]
theorem resP_mono (l r : List UInt8) (h : (resP l).2.1 = 0) : resP (l ++ r) = resP l := by
  unfold resP at h ⊢
  by_cases h1 : (resN l).2.1 = 0
  · simp only [if_pos h1] at h
    have h2 := resN_ok l h1
    rw [resN_mono l r h1, if_pos h1, if_pos h1]
    have hd : (l ++ r).drop (resN l).2.2 = l.drop (resN l).2.2 ++ r := List.drop_append_of_le_length h2.2
    rw [hd, resN_mono _ r h]
  · simp only [if_neg h1] at h
    exact absurd h h1
theorem rdP_mono : ∀ (i : Nat) (l r : List UInt8) (q : List (Nat × Nat) × Nat), rdP i l = some q → rdP i (l ++ r) = some q := by
  intro i
  induction i with
  | zero => intro l r q h; simpa [rdP] using h
  | succ i ih =>
    intro l r q h
    simp only [rdP] at h ⊢
    split at h
    · cases h
    · rename_i d K h0
      rw [ih l r _ h0]
      have hf := rdP_facts i l d K h0
      simp only
      have hd : (l ++ r).drop K = l.drop K ++ r := List.drop_append_of_le_length hf.2.2
      split at h
      · rename_i h1
        rw [hd, resP_mono _ r h1, if_pos h1]
        exact h
      · cases h
theorem rdP_cut (L : List (Nat × Nat)) (hL : Small L) (m : Nat) (hm : m < (formsF L).length) : rdP L.length ((formsF L).take m) = none := by
  cases h : rdP L.length ((formsF L).take m) with
  | none => rfl
  | some q =>
    obtain ⟨d, K⟩ := q
    have h1 := rdP_mono _ _ ((formsF L).drop m) _ h
    rw [List.take_append_drop] at h1
    have h2 := rdP_full L hL []
    rw [List.append_nil, h1] at h2
    simp only [Option.some.injEq, Prod.mk.injEq] at h2
    have h3 := (rdP_facts _ _ _ _ h).2.2
    rw [List.length_take] at h3
    omega
theorem resL2_full (L : List (Nat × Nat)) (hL : Small L) (hn : L.length < 2 ^ 63) : resL2 L.length (numF L.length ++ formsF L) = ((0 : Int), L, (numF L.length ++ formsF L).length) := by
  unfold resL2
  rw [resC_back _ (by omega) _ _ (Int.le_refl _)]
  simp only [if_true]
  have h := rdP_full L hL []
  rw [List.append_nil] at h
  rw [List.drop_left, Int.toNat_natCast, h, List.length_append]
  rfl
theorem resL2_less (L : List (Nat × Nat)) (hn : L.length < 2 ^ 63) (hp : 0 < L.length) : resL2 ((L.length : Int) - 1) (numF L.length ++ formsF L) = ((3 : Int), [], 0) := by
  have hc : resC ((L.length : Int) - 1) (numF L.length ++ formsF L) = ((0 : Int), (3 : Int), (numF L.length).length) := by
    unfold resC
    rw [if_neg (by omega), resN_back _ (by omega)]
    simp only [if_true]
    rw [if_pos (by omega)]
  unfold resL2
  rw [hc]
  rfl
theorem resL2_cut (L : List (Nat × Nat)) (hL : Small L) (hn : L.length < 2 ^ 63) (m : Nat) (hm : m < (numF L.length ++ formsF L).length) : resL2 L.length ((numF L.length ++ formsF L).take m) = ((4 : Int), [], 0) := by
  rw [List.length_append] at hm
  by_cases h1 : m < (numF L.length).length
  · have ht : (numF L.length ++ formsF L).take m = (numF L.length).take m := List.take_append_of_le_length (by omega)
    have hr : resN ((numF L.length).take m) = (0, 4, 0) := resN_none (rdN_cut _ m 0 0 h1)
    have hc : resC (L.length : Int) ((numF L.length).take m) = ((0 : Int), (4 : Int), 0) := by
      unfold resC
      rw [if_neg (by omega), hr]
      rfl
    unfold resL2
    rw [ht, hc]
    rfl
  · have ht : (numF L.length ++ formsF L).take m = numF L.length ++ (formsF L).take (m - (numF L.length).length) := by
      rw [List.take_append, List.take_of_length_le (by omega)]
    unfold resL2
    rw [ht, resC_back _ (by omega) _ _ (Int.le_refl _)]
    simp only [if_true]
    rw [List.drop_left, Int.toNat_natCast, rdP_cut L hL _ (by omega)]
    rfl

/-- append([][2]uint64(nil), l...). -/
theorem run_prs (A : Option Addr) (n c : Nat) (L : List (Nat × Nat)) (w : World) (hl : L.length = n) (hn : n ≤ 1048576) (hL : Prs w A L) :
    ∃ (A1 : Option Addr) (c1 : Nat) (w1 : World), (AppH #[50, 50] 50 #[.slice none 0 0, .slice A n c]).run Try.prog w = .ok (.slice A1 n c1) w1 ∧ w1.ownsRow w.heap.size 51 2 (.slice A1 n c1) n (U2s L) ∧ Only [] w w1 := by
  obtain ⟨i0, hi, hz0, hz1, hz2⟩ := info_parts pair_info
  rcases A with _ | a
  · have h0 : L = [] := by
      rcases L with _ | ⟨⟨x, y⟩, L⟩
      · rfl
      · obtain ⟨_, _, a, ha, _⟩ := hL 0 x y rfl
        cases ha
    subst h0
    obtain rfl : n = 0 := by simpa using hl.symm
    refine ⟨none, 0, w, ?_, ⟨rfl, .inl ⟨rfl, rfl⟩⟩, Only.refl _ _⟩
    unfold AppH Builtin.append_
    simp [Builtin.lenOf, Builtin.firstCells]
  · have hc : ∀ j u, (U2s L)[j]? = some u → w.cell? (a.add j) = some u := by
      intro j u hj
      have hjl : j < (U2s L).length := (List.getElem?_eq_some_iff.1 hj).1
      rw [length_U2s] at hjl
      obtain ⟨⟨x, y⟩, hp⟩ : ∃ p, L[j / 2]? = some p := ⟨_, List.getElem?_eq_getElem (by omega)⟩
      obtain ⟨_, _, a', ha, c0, c1⟩ := hL (j / 2) x y hp
      obtain rfl : a = a' := by simpa using ha
      obtain ⟨u0, u1⟩ := u2s_get L (j / 2) (x, y) hp
      rcases (by omega : j = j / 2 * 2 ∨ j = j / 2 * 2 + 1) with h | h
      · rw [h] at hj ⊢
        rw [u0] at hj
        rw [c0]; exact hj
      · rw [h] at hj ⊢
        rw [u1] at hj
        rw [← Go.Deep.add_add]
        exact c1.trans hj
    obtain ⟨v', w', hrun, h2, h3, h4, h5⟩ := run_append_own_at (P := Try.prog) w w.heap.size 50 50 51 i0 (.agg #[.int .u64 0, .int .u64 0]) 2 16 Try.underlying50 hi hz0 hz1 hz2 rfl (by omega) (.slice none 0 0) 0 [] ⟨rfl, .inl ⟨rfl, rfl⟩⟩ a n c (U2s L) (by rw [length_U2s, hl]) hc (by
        intro u hu
        simp only [U2s, List.mem_flatMap] at hu
        obtain ⟨p, _, hu⟩ := hu
        simp at hu
        rcases hu with rfl | rfl <;> rfl) (by unfold maxLen; omega) (by omega) (Nat.le_refl _)
    simp only [Nat.zero_add, List.nil_append] at h2
    obtain ⟨A1, c1, rfl⟩ : ∃ A1 c1, v' = .slice A1 n c1 := by
      rcases h2.2 with ⟨hv, hn⟩ | ⟨g, cap, cur, hv, _⟩
      · subst hn
        exact ⟨none, 0, hv⟩
      · exact ⟨_, _, hv⟩
    exact ⟨A1, c1, w', hrun, h2, (Only.refl _ w).grown h3 (fun k hk => by simp [Value.ownBlock] at hk)⟩
theorem run_m (A : Option Addr) (n c : Nat) (L : List (Nat × Nat)) (w : World) (hl : L.length = n) (hn : n ≤ 1048576) (hL : Prs w A L) :
    ∃ (A1 : Option Addr) (c1 : Nat) (w1 : World) (g' cap' : Nat) (w2 : World), (AppH #[50, 50] 50 #[.slice none 0 0, .slice A n c]).run Try.prog w = .ok (.slice A1 n c1) w1 ∧
      (AppH #[50, 50] 50 #[.slice A1 n c1, .slice (some ⟨w1.heap.size, 0, none⟩) 1 1]).run Try.prog (w1.alloc (.cells #[.int .u64 7, .int .u64 71] 51)) = .ok (.slice (some ⟨g', 0, none⟩) (n + 1) cap') w2 ∧
      Only [] w w2 ∧ w2.ownsRow w.heap.size 51 2 (.slice (some ⟨g', 0, none⟩) (n + 1) cap') (n + 1) (U2s (L ++ [(7, 71)])) := by
  obtain ⟨A1, c1, w1, hr1, h1, o1⟩ := run_prs A n c L w hl hn hL
  obtain ⟨g', cap', w2, hr2, h2, o2⟩ := app_pair w.heap.size A1 n c1 L 7 71 w1 h1 (by omega) o1.size
  exact ⟨A1, c1, w1, g', cap', w2, hr1, hr2, o1.trans o2 (fun x hx => .inr (own_ge h1 x hx).1), h2⟩
theorem Prs.own {B g n c : Nat} {L M : List (Nat × Nat)} {w : World} (h : w.ownsRow B 51 2 (.slice (some ⟨g, 0, none⟩) n c) n (U2s (L ++ M))) (hL : Small L) : Prs w (some ⟨g, 0, none⟩) L := fun j x y hj => by
  have hm := hL _ (List.mem_of_getElem? hj)
  have hjl : j < L.length := (List.getElem?_eq_some_iff.1 hj).1
  have hlen : n * 2 = (L ++ M).length * 2 := by rw [← length_U2s]; exact h.1.symm
  rw [List.length_append] at hlen
  obtain ⟨g', hg, hc, _⟩ := own_cell h (by omega)
  obtain rfl : g = g' := by simpa using hg
  obtain ⟨u0, u1⟩ := u2s_get (L ++ M) j (x, y) (by rw [List.getElem?_append_left hjl]; exact hj)
  refine ⟨hm.1, hm.2, _, rfl, ?_, ?_⟩
  · rw [add_mk, Nat.zero_add, hc _ (by omega)]; exact u0
  · rw [add_mk, Nat.zero_add]
    show w.cell? ⟨g, j * 2 + 1, none⟩ = _
    rw [hc _ (by omega)]; exact u1
end Go.Proofs.Ytdaeaepfbnlaeaa
