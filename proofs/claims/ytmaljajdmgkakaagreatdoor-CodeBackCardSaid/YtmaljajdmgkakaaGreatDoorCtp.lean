/- Code: what is read is written: the plain laws. No condition. -/
import Derived.Test.YtmaljajdmgkakaaGreatDoorCt8
namespace Go.Proofs.YtmaljajdmgkakaaGreatDoor
open Go.RowKit
set_option linter.unusedVariables false
set_option linter.all false
set_option maxRecDepth 20000

theorem cut_whole (b : UInt8) : ∀ s : List UInt8, (cutAt b s).2.2 = true → s = (cutAt b s).1 ++ b :: (cutAt b s).2.1
  | [], h => by simp [cutAt] at h
  | c :: r, h => by
    unfold cutAt at h ⊢
    split
    · rename_i hc; simp [hc]
    · rename_i hc
      rw [if_neg hc] at h
      have := cut_whole b r h
      simp only [List.cons_append]
      rw [← this]
theorem readL_inv {cnt : Int} : ∀ (f : Nat) (q : List Ins) (r : List UInt8) (p : List Ins), r.length ≤ f → readL cnt f q r = (p, []) → ∃ s, p = q ++ s ∧ txtL s = r ∧ (∀ i ∈ s, May cnt i) ∧ (s = [] ∨ p.length ≤ 256)
  | 0, q, r, p, hf, h => by
    have hr : r = [] := List.eq_nil_of_length_eq_zero (by omega)
    subst hr
    unfold readL at h
    simp only [Prod.mk.injEq, and_true] at h
    exact ⟨[], by simp [h], rfl, by simp, .inl rfl⟩
  | f + 1, q, r, p, hf, h => by
    by_cases hr : r = []
    · subst hr
      rw [readL_nil] at h
      simp only [Prod.mk.injEq, and_true] at h
      exact ⟨[], by simp [h], rfl, by simp, .inl rfl⟩
    · cases hp : parP (cutAt 10 r).1 with
      | none =>
        rw [readL_none hp] at h
        simp only [Prod.mk.injEq] at h
        exact absurd h.2 hr
      | some i =>
        by_cases hc : (cutAt 10 r).2.2 = true ∧ mayI i cnt = true ∧ q.length < 256
        · rw [readL_go hr hp hc] at h
          have hw := cut_whole 10 r hc.1
          have hlen : (cutAt 10 r).2.1.length ≤ f := by
            have := congrArg List.length hw
            simp at this; omega
          obtain ⟨s, h1, h2, h3, h4⟩ := readL_inv f (q ++ [i]) (cutAt 10 r).2.1 p hlen h
          have hs := parP_some hp
          have hb := parP_imm hp
          refine ⟨i :: s, by rw [h1]; simp, ?_, ?_, .inr ?_⟩
          · have e : txtL (i :: s) = lineB i ++ 10 :: txtL s := by simp [txtL]
            rw [e, h2, hs.2]
            exact hw.symm
          · intro j hj
            simp at hj
            rcases hj with rfl | hj
            · exact ⟨hc.2.1, hs.1, hb.1, hb.2⟩
            · exact h3 j hj
          · rcases h4 with h4 | h4
            · rw [h1, h4]; simp; omega
            · exact h4
        · rw [readL_stop hp hc] at h
          simp only [Prod.mk.injEq] at h
          exact absurd h.2 hr
theorem good_list {p : List Ins} (h : ∀ i ∈ p, May p.length i) (hl : p.length ≤ 256) : Good p.length (fOf p) := by
  have hm : ∀ k, k < p.length → May p.length (fOf p k) := fun k hk => by
    have : fOf p k = p[k] := by unfold fOf; rw [List.getD_eq_getElem?_getD, List.getElem?_eq_getElem hk]; rfl
    rw [this]
    exact h _ (List.getElem_mem hk)
  exact ⟨hl, fun k hk => (hm k hk).may, fun k hk => ⟨(hm k hk).i0, (hm k hk).i1⟩⟩
/-- What a text is read as has that text. -/
theorem readR_inv {t : List UInt8} {p : List Ins} {n : Int} (h : readR t = (p, n, 0)) : Good p.length (fOf p) ∧ listB (fOf p) p.length = t ∧ n = 0 := by
  unfold readR at h
  split at h
  · simp at h
  · split at h
    · simp at h
    · rename_i h1 h2
      simp only [Prod.mk.injEq, and_true] at h
      obtain ⟨h3, h4⟩ := h
      have h5 : (readL (cntR t) t.length [] t).2 = [] := by
        cases hx : (readL (cntR t) t.length [] t).2 with
        | nil => rfl
        | cons a b => exact absurd (by rw [hx]; simp) h2
      obtain ⟨s, s1, s2, s3, s4⟩ := readL_inv t.length [] t p (Nat.le_refl _) (by rw [← h3, ← h5])
      rw [List.nil_append] at s1
      subst s1
      have hc := cntR_txt p s3
      rw [s2] at hc
      rw [hc] at s3
      refine ⟨good_list s3 ?_, ?_, h4.symm⟩
      · rcases s4 with s4 | s4
        · rw [s4]; simp
        · exact s4
      · rw [listB_txt, pOf_fOf, s2]
theorem resN_inv {l : List UInt8} (h : (resN l).2.1 = 0) : l = numF (resN l).1 ++ l.drop (resN l).2.2 ∧ (resN l).1 < 2 ^ 64 := by
  have hlt := resN_lt l
  cases hr : rdN l 0 0 with
  | none => rw [resN_none hr] at h; simp at h
  | some x =>
    obtain ⟨v, m⟩ := x
    have hc := rdN_canon l 0 0 v m hr (by omega)
    rw [resN_some hr] at hlt ⊢
    obtain ⟨n, h1, h2, h3, _⟩ := hc
    simp only [Nat.sub_zero, Nat.pow_zero, Nat.mul_one, Nat.zero_add] at h1 h2 h3
    subst h3
    refine ⟨?_, hlt⟩
    simp only
    rw [← h1, List.take_append_drop]
theorem smR_inv {l : List UInt8} {e : Int} (h : (smR l e).2.1 = 0) : e = 0 ∧ ∃ v : Nat, v ≤ 255 ∧ (smR l e).1 = v ∧ l = numF v ++ l.drop (smR l e).2.2 := by
  unfold smR at h ⊢
  simp only at h ⊢
  by_cases he : e = 0
  · rw [if_pos he] at h
    refine ⟨he, (resN l).1, ?_⟩
    by_cases h2 : (resN l).2.1 = 0 ∧ 255 < (resN l).1
    · rw [if_pos h2] at h; omega
    · rw [if_neg h2] at h
      have hr := resN_inv h
      refine ⟨by omega, ?_, hr.1⟩
      unfold wrap64; omega
  · rw [if_neg he] at h; exact absurd h he
theorem unzig_bounds {u : Nat} (h : u < 2 ^ 64) : -9223372036854775808 ≤ unzig u ∧ unzig u ≤ 9223372036854775807 := by
  unfold unzig; split <;> omega
theorem zig_unzig (u : Nat) : zig (unzig u) = u := by
  unfold zig unzig
  split <;> split <;> omega
theorem oneR_inv {l : List UInt8} (h : (oneR l).2.1 = 0) : l = insB (oneR l).1 ++ l.drop (oneR l).2.2 ∧ -9223372036854775808 ≤ (oneR l).1.imm ∧ (oneR l).1.imm ≤ 9223372036854775807 := by
  unfold oneR at h ⊢
  simp only at h ⊢
  obtain ⟨s1, hs1⟩ : ∃ s, smR l 0 = s := ⟨_, rfl⟩
  have i1 : s1.2.1 = 0 → _ := fun hh => smR_inv (l := l) (e := 0) (by rw [hs1]; exact hh)
  rw [hs1] at h i1 ⊢
  obtain ⟨s2, hs2⟩ : ∃ s, smR (l.drop s1.2.2) s1.2.1 = s := ⟨_, rfl⟩
  have i2 : s2.2.1 = 0 → _ := fun hh => smR_inv (l := l.drop s1.2.2) (e := s1.2.1) (by rw [hs2]; exact hh)
  rw [hs2] at h i2 ⊢
  obtain ⟨s3, hs3⟩ : ∃ s, smR (l.drop (s1.2.2 + s2.2.2)) s2.2.1 = s := ⟨_, rfl⟩
  have i3 : s3.2.1 = 0 → _ := fun hh => smR_inv (l := l.drop (s1.2.2 + s2.2.2)) (e := s2.2.1) (by rw [hs3]; exact hh)
  rw [hs3] at h i3 ⊢
  obtain ⟨s4, hs4⟩ : ∃ s, smR (l.drop (s1.2.2 + s2.2.2 + s3.2.2)) s3.2.1 = s := ⟨_, rfl⟩
  have i4 : s4.2.1 = 0 → _ := fun hh => smR_inv (l := l.drop (s1.2.2 + s2.2.2 + s3.2.2)) (e := s3.2.1) (by rw [hs4]; exact hh)
  rw [hs4] at h i4 ⊢
  obtain ⟨n5, hn5⟩ : ∃ s, resN (l.drop (s1.2.2 + s2.2.2 + s3.2.2 + s4.2.2)) = s := ⟨_, rfl⟩
  have i5 : n5.2.1 = 0 → _ := fun hh => resN_inv (l := l.drop (s1.2.2 + s2.2.2 + s3.2.2 + s4.2.2)) (by rw [hn5]; exact hh)
  rw [hn5] at h i5 ⊢
  by_cases h4 : s4.2.1 = 0
  · rw [if_pos h4] at h
    obtain ⟨e3, v4, hv4, e4, l4⟩ := i4 h4
    obtain ⟨e2, v3, hv3, e5, l3⟩ := i3 e3
    obtain ⟨e1, v2, hv2, e6, l2⟩ := i2 e2
    obtain ⟨_, v1, hv1, e7, l1⟩ := i1 e1
    obtain ⟨l5, hb⟩ := i5 h
    have hu := unzig_bounds hb
    refine ⟨?_, hu⟩
    unfold insB
    simp only [e4, e5, e6, e7, Int.toNat_natCast, zig_unzig]
    simp only [List.drop_drop] at l2 l3 l4 l5
    simp only [List.append_assoc]
    rw [← l5, ← l4, ← l3, ← l2]
    exact l1
  · rw [if_neg h4] at h; exact absurd h h4
theorem takeL_inv : ∀ (n : Nat) (q : List Ins) (e : Int) (l : List UInt8) (p : List Ins), takeL n q e l = (p, 0, []) → e = 0 ∧ ∃ s, p = q ++ s ∧ s.length = n ∧ l = bodyL s ∧ ∀ i ∈ s, -9223372036854775808 ≤ i.imm ∧ i.imm ≤ 9223372036854775807
  | 0, q, e, l, p, h => by
    unfold takeL at h
    simp only [Prod.mk.injEq] at h
    obtain ⟨rfl, rfl, rfl⟩ := h
    exact ⟨rfl, [], by simp, rfl, rfl, by simp⟩
  | n + 1, q, e, l, p, h => by
    by_cases he : e = 0
    · unfold takeL at h
      rw [if_pos he] at h
      obtain ⟨h1, s, h2, h3, h4, h5⟩ := takeL_inv n _ _ _ p h
      have ho := oneR_inv h1
      refine ⟨he, (oneR l).1 :: s, by rw [h2]; simp, by simp [h3], ?_, ?_⟩
      · have e' : bodyL ((oneR l).1 :: s) = insB (oneR l).1 ++ bodyL s := by simp [bodyL]
        rw [e', ← h4]
        exact ho.1
      · intro i hi
        simp at hi
        rcases hi with rfl | hi
        · exact ho.2
        · exact h5 i hi
    · rw [takeL_err _ _ _ _ he] at h
      simp only [Prod.mk.injEq] at h
      exact absurd h.2.1 he
/-- What bytes are read as has those bytes. -/
theorem takeF_inv {bs : List UInt8} {p : List Ins} (h : takeF bs = some p) : Good p.length (fOf p) ∧ putB p.length (fOf p) = bs := by
  unfold takeF at h
  split at h
  · rename_i hc
    injection h with h
    obtain ⟨h1, h2, h3⟩ := hc
    rw [h] at h2
    have ht : takeW bs = (p, 0, []) := by rw [← h, ← h1, ← h3]
    unfold takeW at ht
    split at ht
    · rename_i hr
      have hcanon : ∃ n : Nat, (resC 256 bs).1 = n ∧ bs = numF n ++ bs.drop (resC 256 bs).2.2 := by
        unfold resC at hr ⊢
        rw [if_neg (by decide)] at hr ⊢
        by_cases h0 : (resN bs).2.1 = 0
        · rw [if_pos h0] at hr ⊢
          by_cases hl : (256 : Int) < ((resN bs).1 : Int)
          · rw [if_pos hl] at hr; simp at hr
          · rw [if_neg hl]
            exact ⟨(resN bs).1, rfl, (resN_inv h0).1⟩
        · rw [if_neg h0] at hr
          exact absurd hr h0
      obtain ⟨n, hn, hb⟩ := hcanon
      rw [hn, Int.toNat_natCast] at ht
      obtain ⟨_, s, s1, s2, s3, s4⟩ := takeL_inv n [] 0 _ p ht
      rw [List.nil_append] at s1
      subst s1
      refine ⟨good_of h2 (fun k hk => ?_), ?_⟩
      · have : fOf p k = p[k] := by unfold fOf; rw [List.getD_eq_getElem?_getD, List.getElem?_eq_getElem hk]; rfl
        rw [this]
        exact s4 _ (List.getElem_mem hk)
      · unfold putB
        rw [bodyB_body, pOf_fOf, s2, ← s3]
        exact hb.symm
    · rename_i hr
      simp only [Prod.mk.injEq] at ht
      exact absurd ht.2.1 hr
  · cases h
theorem sameB_iff (n : Nat) (f : Nat → Ins) (m : Nat) (g : Nat → Ins) : sameB n f m g = true ↔ pOf n f = pOf m g := by
  constructor
  · intro h
    unfold sameB at h
    simp at h
    obtain ⟨rfl, h2⟩ := h
    unfold pOf
    apply List.map_congr_left
    intro k hk
    rw [List.mem_range] at hk
    cases he : insEq (f k) (g k) with
    | true => exact (insEq_iff _ _).1 he
    | false =>
      exfalso
      have hex : ∃ k, k < n ∧ (fun k => !insEq (f k) (g k)) k = true ∧ ∀ j, j < k → (fun k => !insEq (f k) (g k)) j = false := by
        have h0 : ∃ k, k < n ∧ (fun k => !insEq (f k) (g k)) k = true := ⟨k, hk, by simp [he]⟩
        obtain ⟨k, hk, hb⟩ := h0
        clear h2 he
        induction k using Nat.strongRecOn with
        | _ k ih =>
          by_cases hj : ∃ j, j < k ∧ (fun k => !insEq (f k) (g k)) j = true
          · obtain ⟨j, hj1, hj2⟩ := hj
            exact ih j hj1 (by omega) hj2
          · exact ⟨k, hk, hb, fun j hj1 => by
              cases hc : (fun k => !insEq (f k) (g k)) j with
              | false => rfl
              | true => exact absurd ⟨j, hj1, hc⟩ hj⟩
      obtain ⟨j, hj1, hj2, hj3⟩ := hex
      have := fb_at hj1 hj2 hj3
      rw [h2] at this
      omega
  · intro h
    have hl := congrArg List.length h
    rw [pOf_len, pOf_len] at hl
    subst hl
    exact sameB_self n f g (fun k hk => by rw [← fOf_pOf (f := f) hk, ← fOf_pOf (f := g) hk, h])
theorem list_inj {n m : Nat} {f g : Nat → Ins} (h1 : Good n f) (h2 : Good m g) : (listB f n == listB g m) = sameB n f m g := by
  cases hs : sameB n f m g with
  | true =>
    have := (sameB_iff n f m g).1 hs
    rw [listB_txt, listB_txt, this]
    simp
  | false =>
    have : listB f n ≠ listB g m := fun h => by
      have r1 := readR_back h1
      rw [h, readR_back h2] at r1
      simp only [Prod.mk.injEq, and_true] at r1
      rw [(sameB_iff n f m g).2 r1.symm] at hs
      cases hs
    simpa using this
theorem put_inj {n m : Nat} {f g : Nat → Ins} (h1 : Good n f) (h2 : Good m g) : (putB n f == putB m g) = sameB n f m g := by
  cases hs : sameB n f m g with
  | true =>
    have := (sameB_iff n f m g).1 hs
    have hl := congrArg List.length this
    rw [pOf_len, pOf_len] at hl
    unfold putB
    rw [bodyB_body, bodyB_body, this, hl]
    simp
  | false =>
    have : putB n f ≠ putB m g := fun h => by
      have r1 := takeF_back h1
      rw [h, takeF_back h2] at r1
      injection r1 with r1
      rw [(sameB_iff n f m g).2 r1.symm] at hs
      cases hs
    simpa using this
end Go.Proofs.YtmaljajdmgkakaaGreatDoor
