/- Script: what is read is written; unlike scripts have unlike texts; how long a text is. No condition. -/
import Derived.Test.YteblhklclcjonaaGreatDoorSc3
namespace Go.Proofs.YteblhklclcjonaaGreatDoor
open Go.Lib
set_option linter.unusedVariables false
set_option linter.all false
set_option maxRecDepth 20000

def stB (r : Rd) : List UInt8 := progsB r.ps ++ (textsB r.ts ++ strB (strF r.es))
structure Inv (r : Rd) (len : Int) (rest : List UInt8) : Prop where
  p0 : r.at' = 0 → r.ps = []
  p1 : r.at' ≠ 0 → r.ps ≠ []
  t0 : r.at' ≤ 1 → r.ts = []
  e0 : r.at' ≤ 2 → r.es = []
  pl : r.ps.length ≤ 32
  pg : ∀ p ∈ r.ps.dropLast, gP p
  pz : ∀ p, r.ps.getLast? = some p → p.length ≤ 256 ∧ ∀ i ∈ p, May (if r.at' = 1 then len else p.length) i
  cn : r.at' = 1 → ∀ p, r.ps.getLast? = some p → len = (p.length : Int) + cnt rest
  tl : r.ts.length ≤ 32
  tg : ∀ t ∈ r.ts, t.length ≤ 64
  el : r.es.length ≤ 8192
  eg : ∀ e ∈ r.es, mayE e = true
theorem snoc_of {α : Type} {l : List α} (h : l ≠ []) : ∃ q x, l = q ++ [x] := ⟨l.dropLast, l.getLast h, (List.dropLast_concat_getLast h).symm⟩
/-- Behind the last instruction of a program it is whole. -/
theorem Inv.last {r : Rd} {len : Int} {t : List UInt8} (h : Inv r len t) (hc : cnt t = 0) : ∀ p ∈ r.ps, gP p := by
  intro p hp
  by_cases hps : r.ps = []
  · rw [hps] at hp; cases hp
  · obtain ⟨q, x, hq⟩ := snoc_of hps
    have h1 := h.pg
    have h2 := h.pz
    have h3 := h.cn
    rw [hq] at h1 h2 h3 hp
    rw [List.dropLast_concat] at h1
    rw [List.getLast?_concat] at h2 h3
    rcases List.mem_append.1 hp with hp | hp
    · exact h1 p hp
    · simp only [List.mem_cons, List.not_mem_nil, or_false] at hp
      subst hp
      have h4 := h2 _ rfl
      refine ⟨h4.1, fun i hi => ?_⟩
      have h5 := h4.2 i hi
      by_cases ha : r.at' = 1
      · rw [if_pos ha] at h5
        have h6 := h3 ha _ rfl
        rw [hc] at h6
        have e : len = (p.length : Int) := by rw [h6]; simp
        rw [e] at h5
        exact h5
      · rw [if_neg ha] at h5; exact h5
theorem gP_last {p : List Ins} (h : gP p) {a : Nat} {len : Int} (ha : a ≠ 1) : p.length ≤ 256 ∧ ∀ i ∈ p, May (if a = 1 then len else p.length) i := ⟨h.1, fun i hi => by rw [if_neg ha]; exact h.2 i hi⟩
theorem strF_one_of {x : Str} (h : mayS x = true) : strF (List.replicate x.n.toNat x.ev) = [x] := by
  have hb := mayS_num h
  rw [mayS_iff] at h
  obtain ⟨e, n⟩ := x
  simp only at hb h ⊢
  by_cases hk : e.kind = 3
  · have : n = 1 := by have := h.2.2.2 hk; omega
    subst this
    exact strF_one h.1 hk []
  · obtain ⟨m, hm⟩ : ∃ m, n.toNat = m + 1 := ⟨n.toNat - 1, by omega⟩
    have := strF_run h.1 hk (r := []) (.inl rfl) m
    rw [List.append_nil] at this
    rw [hm, this]
    have e2 : (m : Int) + 1 = n := by omega
    rw [e2]
    rfl
theorem cnt_none {s rest : List UInt8} (hs : (10 : UInt8) ∉ s) (h : parP s = none) : cnt (s ++ 10 :: rest) = 0 := cnt_stop (by rw [cut_at 10 s rest hs, h]; simp)
theorem lineR_inv {r r' : Rd} {s rest : List UInt8} {len : Int} (hI : Inv r len (s ++ 10 :: rest)) (hs : (10 : UInt8) ∉ s) (h : lineR r s (lenR s rest len) = some r') : Inv r' (lenR s rest len) rest ∧ stB r' = stB r ++ (s ++ [10]) ∧ r'.at' ≠ 0 := by
  cases hu : unlF s with
  | some x =>
    have hx := unl_some hu
    have hb := mayS_num hx.1
    have hpn : parP s = none := by rw [← hx.2]; exact par_lineT hx.1
    have hc := cnt_none (rest := rest) hs hpn
    have hg := hI.last hc
    unfold lineR at h
    rw [hu] at h
    simp only at h
    unfold evR at h
    split at h
    · cases h
    · rename_i hn
      injection h with h
      subst h
      have n1 : r.at' ≠ 0 := fun e => hn (.inl e)
      have n2 : again r.es x = false := by
        cases hh : again r.es x with
        | false => rfl
        | true => exact absurd (.inr (.inl hh)) hn
      have n3 : (r.es.length : Int) + x.n ≤ 8192 := by
        by_cases hh : 8192 < (r.es.length : Int) + x.n
        · exact absurd (.inr (.inr hh)) hn
        · omega
      have hst : strF (r.es ++ List.replicate x.n.toNat x.ev) = strF r.es ++ [x] := by
        rw [strF_append r.es hI.eg, strF_one_of hx.1]
        intro e y he hy hk hye
        have hy2 : y = x.ev := by
          obtain ⟨m, hm⟩ : ∃ m, x.n.toNat = m + 1 := ⟨x.n.toNat - 1, by omega⟩
          rw [hm, List.replicate_succ, List.head?_cons] at hy
          injection hy with hy
          exact hy.symm
        subst hy2
        subst hye
        unfold again at n2
        simp only [decide_eq_false_iff_not] at n2
        exact n2 ⟨hk, he⟩
      refine ⟨⟨fun e => absurd e (by simp), fun _ => hI.p1 n1, fun e => absurd e (by simp), fun e => absurd e (by simp), hI.pl, hI.pg, fun p hp => gP_last (hg p (List.mem_of_getLast? hp)) (by simp), fun e => absurd e (by simp), hI.tl, hI.tg, by simp only [List.length_append, List.length_replicate]; omega, ?_⟩, ?_, by simp⟩
      · intro e he
        rcases List.mem_append.1 he with he | he
        · exact hI.eg e he
        · rw [List.eq_of_mem_replicate he]
          exact ((mayS_iff x).1 hx.1).1
      · unfold stB
        simp only
        rw [hst]
        simp [strB, hx.2]
  | none =>
    cases hp : parP s with
    | some i =>
      have hi := parP_some hp
      have hm := parP_imm hp
      unfold lineR at h
      rw [hu, hp] at h
      simp only at h
      have hne : s ≠ progW := fun e => by rw [e, par_none_prog] at hp; cases hp
      have hL : lenR s rest len = len := if_neg hne
      rw [hL] at h ⊢
      unfold inR at h
      split at h
      · cases h
      · rename_i hn
        injection h with h
        subst h
        have n1 : r.at' = 1 := by
          by_cases hh : r.at' = 1
          · exact hh
          · exact absurd (.inl hh) hn
        have n2 : mayI i len = true := by
          cases hh : mayI i len with
          | true => rfl
          | false => exact absurd (.inr (.inl hh)) hn
        have n3 : (r.ps.getLastD []).length + 1 ≤ 256 := by
          by_cases hh : 256 < (r.ps.getLastD []).length + 1
          · exact absurd (.inr (.inr hh)) hn
          · omega
        have hps := hI.p1 (by omega)
        have hts := hI.t0 (by omega)
        have hes := hI.e0 (by omega)
        have hcn : cnt (s ++ 10 :: rest) = cnt rest + 1 := by
          have := cnt_ins hi.1 hm.1 hm.2 rest
          rw [hi.2] at this
          exact this
        obtain ⟨q, x, hq⟩ := snoc_of hps
        have hz := hI.pz
        have hcc := hI.cn
        have hpg := hI.pg
        have hpl := hI.pl
        obtain ⟨rps, rts, res, rat⟩ := r
        simp only at hq n1 n3 hts hes hz hcc hpg hpl ⊢
        subst hq n1 hts hes
        simp only [List.getLastD_eq_getLast?, List.getLast?_concat, Option.getD_some, List.dropLast_concat] at n3 hz hcc hpg ⊢
        have hz1 := hz x rfl
        have hc1 := hcc trivial x rfl
        refine ⟨⟨fun e => absurd e (by simp), fun _ => by simp, fun _ => rfl, fun _ => rfl, by simpa using hpl, by simpa using hpg, ?_, ?_, hI.tl, hI.tg, hI.el, hI.eg⟩, ?_, by simp only [ne_eq, Nat.one_ne_zero, not_false_eq_true]⟩
        · intro p hp2
          simp only [List.getLast?_concat, Option.some.injEq] at hp2
          subst hp2
          refine ⟨by simp; omega, fun j hj => ?_⟩
          rcases List.mem_append.1 hj with hj | hj
          · exact hz1.2 j hj
          · simp only [List.mem_cons, List.not_mem_nil, or_false] at hj
            subst hj
            rw [if_pos rfl]
            exact ⟨n2, hi.1, hm.1, hm.2⟩
        · intro _ p hp2
          simp only [List.getLast?_concat, Option.some.injEq] at hp2
          subst hp2
          rw [hc1, hcn]
          simp
          omega
        · unfold stB
          simp only
          have e1 : ∀ u, progsB (q ++ [u]) = progsB q ++ (progW ++ 10 :: txtL u) := fun u => by simp [progsB]
          rw [e1, e1]
          simp [textsB, strB, strF, txtL, hi.2]
    | none =>
      have hc := cnt_none (rest := rest) hs hp
      have hg := hI.last hc
      unfold lineR at h
      rw [hu, hp] at h
      simp only at h
      split at h
      · rename_i hsp
        subst hsp
        have hL : lenR progW rest len = (cnt rest : Int) := if_pos rfl
        rw [hL]
        unfold prR at h
        split at h
        · cases h
        · rename_i hn
          injection h with h
          subst h
          have n1 : r.at' ≤ 1 := by
            by_cases hh : 1 < r.at'
            · exact absurd (.inl hh) hn
            · omega
          have n2 : r.ps.length < 32 := by
            by_cases hh : 32 ≤ r.ps.length
            · exact absurd (.inr hh) hn
            · omega
          have hts := hI.t0 (by omega)
          have hes := hI.e0 (by omega)
          refine ⟨⟨fun e => absurd e (by simp only [Nat.one_ne_zero, not_false_eq_true]), fun _ => by simp, fun _ => hts, fun _ => hes, by simp; omega, by simpa using hg, ?_, ?_, hI.tl, hI.tg, hI.el, hI.eg⟩, ?_, by simp only [ne_eq, Nat.one_ne_zero, not_false_eq_true]⟩
          · intro p hp2
            simp only [List.getLast?_concat, Option.some.injEq] at hp2
            subst hp2
            exact ⟨by simp, fun i hi => by cases hi⟩
          · intro _ p hp2
            simp only [List.getLast?_concat, Option.some.injEq] at hp2
            subst hp2
            simp
          · unfold stB
            simp only
            rw [hts, hes]
            simp [progsB, textsB, strB, strF, txtL]
      · rename_i hnp
        split at h
        · rename_i hcut
          have hL : lenR s rest len = len := if_neg hnp
          rw [hL]
          unfold txR at h
          split at h
          · cases h
          · rename_i t ht
            have hw := unw_some ht
            have hsw : s = textW ++ 32 :: wordB t := by
              have := cut_whole 32 s hcut.2
              rw [hcut.1, ← hw] at this
              exact this
            split at h
            · cases h
            · rename_i hn
              injection h with h
              subst h
              have n1 : r.at' = 1 ∨ r.at' = 2 := by
                by_cases hh : r.at' ≠ 1 ∧ r.at' ≠ 2
                · exact absurd (.inl hh) hn
                · omega
              have n2 : t.length ≤ 64 := by
                by_cases hh : 64 < t.length
                · exact absurd (.inr (.inl hh)) hn
                · omega
              have n3 : r.ts.length < 32 := by
                by_cases hh : 32 ≤ r.ts.length
                · exact absurd (.inr (.inr hh)) hn
                · omega
              have hes := hI.e0 (by omega)
              refine ⟨⟨fun e => absurd e (by simp), fun _ => hI.p1 (by omega), fun e => absurd e (by simp), fun _ => hes, hI.pl, hI.pg, fun p hp => gP_last (hg p (List.mem_of_getLast? hp)) (by simp), fun e => absurd e (by simp), by simp; omega, ?_, hI.el, hI.eg⟩, ?_, by simp⟩
              · intro u hu
                rcases List.mem_append.1 hu with hu | hu
                · exact hI.tg u hu
                · simp only [List.mem_cons, List.not_mem_nil, or_false] at hu
                  subst hu
                  exact n2
              · unfold stB
                simp only
                rw [hes, hsw]
                simp [textsB, strB, strF]
        · cases h
theorem cut_not (b : UInt8) : ∀ t : List UInt8, b ∉ (cutAt b t).1
  | [] => by simp [cutAt]
  | c :: t => by
    have ih := cut_not b t
    unfold cutAt
    split
    · simp
    · rename_i hne
      simp only [List.mem_cons, not_or]
      exact ⟨fun e => hne e.symm, ih⟩
theorem parL_inv : ∀ (f n : Nat) (len : Int) (r : Rd) (t : List UInt8) (m : Nat) (r' : Rd), Inv r len t → parL f n len r t = (m, some r') → ∃ len', Inv r' len' [] ∧ r'.at' ≠ 0 ∧ stB r' = stB r ++ t
  | 0, n, len, r, t, m, r', hI, h => by unfold parL at h; simp at h
  | f + 1, n, len, r, t, m, r', hI, h => by
    unfold parL at h
    split at h
    · rename_i ht
      subst ht
      split at h
      · simp at h
      · rename_i ha
        simp only [Prod.mk.injEq, Option.some.injEq] at h
        obtain ⟨_, rfl⟩ := h
        exact ⟨len, hI, ha, by simp⟩
    · split at h
      · rename_i hc
        have hw := cut_whole 10 t hc
        split at h
        · simp at h
        · rename_i r2 hr2
          have h10 : (10 : UInt8) ∉ (cutAt 10 t).1 := cut_not 10 t
          rw [hw] at hI
          obtain ⟨h1, h2, _⟩ := lineR_inv hI h10 hr2
          obtain ⟨len', h3, h4, h5⟩ := parL_inv f _ _ _ _ _ _ h1 h
          refine ⟨len', h3, h4, ?_⟩
          rw [h5, h2]
          conv => rhs; rw [hw]
          simp
      · simp at h
/-- What a text is read as has that text. -/
theorem par_inv {t : List UInt8} {s : Sc} {n : Nat} {e : Int} (h : parF t = (some s, n, e)) : GoodS s ∧ scrB s = t ∧ n = 0 ∧ e = 0 ∧ t.length ≤ 1048576 := by
  unfold parF at h
  split at h
  · simp at h
  · rename_i hlen
    split at h
    · rename_i hc
      have hw := cut_whole 10 t hc.2
      split at h
      · simp at h
      · rename_i m r hr
        simp only [Prod.mk.injEq, Option.some.injEq] at h
        obtain ⟨rfl, rfl, rfl⟩ := h
        have hI0 : Inv ⟨[], [], [], 0⟩ 0 (cutAt 10 t).2.1 := ⟨fun _ => rfl, fun h => absurd rfl h, fun _ => rfl, fun _ => rfl, by simp, by simp, by simp, fun h => absurd h (by decide), by simp, by simp, by simp, by simp⟩
        obtain ⟨len', h1, h2, h3⟩ := parL_inv _ _ _ _ _ _ _ hI0 hr
        have hh := hc.1
        unfold hdOk at hh
        simp only [Bool.and_eq_true, decide_eq_true_eq] at hh
        refine ⟨⟨hh.1, h1.p1 h2, h1.pl, h1.last cnt_nil, h1.tl, h1.tg, h1.el, h1.eg⟩, ?_, rfl, rfl, by omega⟩
        have e0 : stB ⟨[], [], [], 0⟩ = [] := rfl
        rw [e0, List.nil_append] at h3
        unfold stB at h3
        unfold scrB jobB
        simp only
        rw [hh.2]
        conv => rhs; rw [hw]
        rw [← h3]
        simp
    · simp at h
theorem numOk_inj {a b : Sc} (ha : GoodS a) (hb : GoodS b) (la : (scrB a).length ≤ 1048576) (h : scrB a = scrB b) : (∀ q, q < 6 → a.v q = b.v q) ∧ a.ps = b.ps ∧ a.ts = b.ts ∧ a.es = b.es := by
  obtain ⟨v, h1, h2⟩ := par_back ha la
  obtain ⟨u, h3, h4⟩ := par_back hb (by rw [← h]; exact la)
  rw [h, h3] at h1
  simp only [Prod.mk.injEq, Option.some.injEq, Sc.mk.injEq, and_true] at h1
  obtain ⟨h5, h6, h7, h8⟩ := h1
  exact ⟨fun q hq => by rw [← h2 q hq, ← h5, h4 q hq], h6.symm, h7.symm, h8.symm⟩
theorem scrB_congr {a b : Sc} (hv : ∀ q, q < 6 → a.v q = b.v q) (hp : a.ps = b.ps) (ht : a.ts = b.ts) (he : a.es = b.es) : scrB a = scrB b := by
  unfold scrB jobB
  rw [hp, ht, he, show headB a.v = headB b.v from headN_congr 6 hv]
end Go.Proofs.YteblhklclcjonaaGreatDoor
