/- Script: the walk of the document's Stretches. Condition: the events lie. -/
import Derived.Test.YteblhklclcjonaaGreatDoorSm4
namespace Go.Proofs.YteblhklclcjonaaGreatDoor
open Go.RowKit Go.Shelf
set_option linter.unusedVariables false
set_option linter.all false
set_option maxRecDepth 20000
attribute [local go_sem ↓] app_hide

theorem own_setN {w : World} {B n c g size : Nat} {e : TypeId} {xs : List Value} (h : w.ownsRow B e size (.slice (some ⟨g, 0, none⟩) n c) n xs) (j : Nat) (v : Value) (hj : j < n * size) : (w.setCell ⟨g, j, none⟩ v).ownsRow B e size (.slice (some ⟨g, 0, none⟩) n c) n (xs.set j v) := by
  rcases h.2 with ⟨hv, _⟩ | ⟨g', cap, cur, hv, hb, hg, hn, hm, hs, ht⟩
  · simp at hv
  · simp only [Value.slice.injEq, Option.some.injEq, Addr.mk.injEq] at hv
    obtain ⟨⟨rfl, _⟩, _, rfl⟩ := hv
    refine ⟨by simpa using h.1, .inr ⟨g, c, cur.setIfInBounds j v, rfl, hb, Blk.set_ (t := e) hg j v, hn, hm, by simpa using hs, ?_⟩⟩
    rw [Array.toList_setIfInBounds, ← ht, List.take_set]
theorem strF_n : ∀ (l : List Ev), ∀ x ∈ strF l, (x.n : Int) ≤ l.length
  | [], x, hx => by cases hx
  | e :: r, x, hx => by
    have ih := strF_n r
    cases he : mayE e with
    | false => rw [strF_bad he] at hx; cases hx
    | true =>
      rw [strF_cons he] at hx
      simp only [List.length_cons]
      cases hs : strF r with
      | nil =>
        rw [hs] at hx
        simp only [joinS, List.mem_cons, List.not_mem_nil, or_false] at hx
        subst hx
        simp only; omega
      | cons y ys =>
        rw [hs] at hx ih
        by_cases hc : e.kind ≠ 3 ∧ y.ev = e
        · rw [joinS_same _ hc.1 hc.2] at hx
          rcases List.mem_cons.1 hx with rfl | hx
          · have h1 := ih y (by simp)
            simp only; omega
          · have h1 := ih x (by simp [hx])
            omega
        · rw [joinS_other _ hc] at hx
          rcases List.mem_cons.1 hx with rfl | hx
          · simp only; omega
          · have h1 := ih x hx
            omega
theorem evL_succ (n : Nat) (f : Nat → Ev) : evL (n + 1) f = evL n f ++ [f n] := by simp [evL, List.range_succ]
theorem StV_len (l : List Str) : (StV l).length = l.length * 3 := by
  induction l with
  | nil => rfl
  | cons x l ih =>
    have e : StV (x :: l) = .int .i64 x.ev.kind :: .int .i64 x.ev.num :: .int .i64 x.n :: StV l := by simp [StV]
    rw [e]
    simp only [List.length_cons, ih]
    omega
theorem StV_bump (xs : List Str) (x : Str) (m : Int) : (StV (xs ++ [x])).set (xs.length * 3 + 2) (.int .i64 m) = StV (xs ++ [⟨x.ev, m⟩]) := by
  rw [StV_append, StV_append, List.set_append_right _ _ (by rw [StV_len]; omega), StV_len, show xs.length * 3 + 2 - xs.length * 3 = 2 by omega]
  rfl
theorem evL_stop {n : Nat} {f : Nat → Ev} {i : Nat} (hi : i ≤ n) (hall : ∀ j, j < i → mayE (f j) = true) (h : i = n ∨ mayE (f i) = false) : strF (evL n f) = strF (evL i f) := by
  have hs : evL n f = evL i f ++ (evL n f).drop i := by
    apply List.ext_getElem?
    intro j
    by_cases hj : j < i
    · rw [List.getElem?_append_left (by rw [evL_len]; exact hj), evL_get hj, evL_get (by omega)]
    · rw [List.getElem?_append_right (by rw [evL_len]; omega), List.getElem?_drop, evL_len, show i + (j - i) = j by omega]
  have hd : strF ((evL n f).drop i) = [] := strF_stop (by rcases h with h | h; exact .inl (by omega); exact .inr h)
  rw [hs]
  have key : ∀ a : List Ev, (∀ e ∈ a, mayE e = true) → ∀ b, strF b = [] → strF (a ++ b) = strF a := by
    intro a
    induction a with
    | nil => intro _ b hb; exact hb
    | cons e a ih =>
      intro ha b hb
      rw [List.cons_append, strF_cons (ha e (by simp)), strF_cons (ha e (by simp)), ih (fun x hx => ha x (by simp [hx])) b hb]
  refine key _ ?_ _ hd
  intro e he
  unfold evL at he
  obtain ⟨j, hj, rfl⟩ := List.mem_map.1 he
  exact hall j (List.mem_range.1 hj)
theorem evL_all {i : Nat} {f : Nat → Ev} (hall : ∀ j, j < i → mayE (f j) = true) : ∀ e ∈ evL i f, mayE e = true := by
  intro e he
  unfold evL at he
  obtain ⟨j, hj, rfl⟩ := List.mem_map.1 he
  exact hall j (List.mem_range.1 hj)
set_option maxHeartbeats 8000000 in
theorem rstrs_any (A : Option Addr) (n c : Nat) (f : Nat → Ev) (w : World) (hn : n ≤ 1000000) (hE : EvAt w A n f) : Calls Tryz.prog 16 #[.slice A n c] w fun e w' => (∃ B d, e = .returned (.slice B (strF (evL n f)).length d) ∧ Ss w' w.heap.size B d (strF (evL n f))) ∧ Only [] w w' := by
  have HE := hide hE
  obtain ⟨L, hL⟩ : ∃ L, strF (evL n f) = L := ⟨_, rfl⟩
  rw [hL]
  have HL := hide hL
  clear hE hL
  go_enter Tryz.func16, Tryz.ntmps16
  go_wp2_with fail
  go_loopw [3, 4] (fun vo vi wr => ∃ (i : Nat) (l : List Str) (B : Option Addr) (d : Nat), i ≤ n ∧ vo = .slice B l.length d ∧ vi = .int .i64 i ∧ Hid (l = strF (evL i f)) ∧ Hid (∀ j, j < i → mayE (f j) = true) ∧ Hid (Ss wr w.heap.size B d l) ∧ Hid (Only [] w wr)) (fun _ vi _ => n - (intOf vi).toNat)
  case atStart => exact ⟨0, [], none, 0, Nat.zero_le _, rfl, rfl, hide rfl, hide (fun j hj => by omega), hide (World.ownsRow_nil ..), hide (Only.refl _ _)⟩
  case round =>
    obtain ⟨i, l, B, d, hi, rfl, rfl, hl, hall, hS, hO⟩ := hrel
    by_cases hlt : i < n
    · obtain ⟨a, eA, e0, e1⟩ := (HE.out.only0 hO.out) i hlt
      subst eA
      have j0 : (0 : Int) ≤ (i : Int) := by omega
      have j1 : (i : Int) < (n : Int) := by omega
      have MY := fun V => rmay_ev (f i).kind (f i).num V
      obtain ⟨ki, hki⟩ : ∃ x, (f i).kind = x := ⟨_, rfl⟩
      obtain ⟨mi, hmi⟩ : ∃ x, (f i).num = x := ⟨_, rfl⟩
      have hfi : f i = ⟨ki, mi⟩ := by rw [← hki, ← hmi]
      rw [hki, hmi] at MY
      rw [hki] at e0
      rw [hmi] at e1
      cases hm : mayE ⟨ki, mi⟩ with
      | false =>
        rw [hm] at MY
        have MY := hide MY
        have hend : L = l := by rw [← HL.out, hl.out]; exact evL_stop (by omega) hall.out (.inr (by rw [hfi]; exact hm))
        clear hki hmi hfi hm
        go_wp2_with (go_at_call 14; (with_reducible refine (MY.out _).mono ?_); rintro e w2 ⟨rfl, o2⟩; have O2 := hide o2; clear o2)
        go_ret
        exact ⟨⟨B, d, by rw [hend]; rfl, by rw [hend]; exact hS.out.only0 O2.out⟩, hO.out.trans0 O2.out⟩
      | true =>
        rw [hm] at MY
        have MY := hide MY
        have HFI := hide hfi
        have HM := hide hm
        clear hki hmi hfi hm
        go_wp2_with (go_at_call 14; (with_reducible refine (MY.out _).mono ?_); rintro e w2 ⟨rfl, o2⟩; have HS2 := hide (hS.out.only0 o2); have HO2 := hide (hO.out.trans0 o2); clear o2)
        have HALL2 := hide (show ∀ j, j < i + 1 → mayE (f j) = true by
          intro j hj
          by_cases hji : j < i
          · exact hall.out j hji
          · rw [show j = i by omega, HFI.out]; exact HM.out)
        have HSN0 := hide (fun (h : ∀ x, l.getLast? = some x → ki ≠ 3 → x.ev ≠ ⟨ki, mi⟩) => show l ++ [⟨⟨ki, mi⟩, 1⟩] = strF (evL (i + 1) f) by
          rw [evL_succ, HFI.out, strF_snoc_other HM.out (evL_all hall.out) (by rw [← hl.out]; exact h), ← hl.out])
        clear hS hO
        by_cases hln : l = []
        · have HSN := hide (HSN0.out (fun x hx => by rw [hln] at hx; cases hx))
          have hl0 : ¬ (0 : Int) < (l.length : Int) := by rw [hln]; simp
          have hl0d : decide ((0 : Int) < (l.length : Int)) = false := decide_eq_false hl0
          have hl0n : decide (0 < l.length) = false := by rw [hln]; rfl
          clear hln HSN0
          go_quiet (fail)
          have oq := (Only.refl [] w2).drewN nq
          have hS9 := HS2.out.only0 oq
          have hO9 := hide (HO2.out.trans0 oq)
          have hE9 := HE.out.only0 hO9.out
          generalize w2.drewN nq = w9 at hS9 hO9 hE9 ⊢
          obtain ⟨a5, eA, e0, e1⟩ := hE9 i hlt
          injection eA with eA
          subst eA
          rw [HFI.out] at e0 e1
          simp only at e0 e1
          have hll : l.length ≤ 2000000 := by rw [hl.out]; have := strF_len (evL i f); rw [evL_len] at this; omega
          obtain ⟨g', c', w3, hrun, hS3, o3, hgg⟩ := app_st w9 w.heap.size B d l ⟨⟨ki, mi⟩, 1⟩ hS9 hll (by have := hO9.out.size; omega)
          have HS3 := hide hS3
          have hge := own_ge hS9
          have HO3 := hide (hO9.out.trans o3 (fun x hx => .inr (hge x hx).1))
          simp only at hrun
          clear hS3 hS9 hge o3 oq hE9 hgg
          go_wp2_with fail
          go_roundw
          case rel => exact ⟨i + 1, l ++ [⟨⟨ki, mi⟩, 1⟩], some ⟨g', 0, none⟩, c', by omega, (by simp <;> omega), by go_num, HSN, HALL2, HS3, HO3⟩
          case measure => simp [intOf]; omega
        · obtain ⟨xs, x, hxs⟩ := snoc_of hln
          obtain ⟨p, hp⟩ : ∃ p, xs.length = p := ⟨_, rfl⟩
          have hlp : l.length = p + 1 := by rw [hxs, List.length_append, hp]; rfl
          have hp1 : (l.length : Int) - 1 = (p : Int) := by omega
          have hp2 : ((p + 1 : Nat) : Int) - 1 = (p : Int) := by omega
          have hp3 : (p : Int) + 1 - 1 = (p : Int) := by omega
          have hl0 : (0 : Int) < ((p + 1 : Nat) : Int) := by omega
          have hl0d : decide ((0 : Int) < ((p + 1 : Nat) : Int)) = true := decide_eq_true hl0
          have hpl : p ≤ 1000000 := by have := strF_len (evL i f); rw [evL_len, ← hl.out] at this; omega
          obtain ⟨gB, rfl, b0, b1, b2⟩ := HS2.out.cells (k := p) (x := x) (by rw [hxs, ← hp, List.getElem?_append_right (Nat.le_refl _)]; simp)
          have f2 : w2.frozen? ⟨gB, p * 3 + 2, none⟩ = false := by obtain ⟨g0, e, _, h2⟩ := own_cell HS2.out (by omega); injection e with e; injection e with e _; subst e; exact h2 _
          have e0 := hide ((HE.out.only0 HO2.out) i hlt)
          obtain ⟨a5, eA, e0, e1⟩ := e0.out
          injection eA with eA
          subst eA
          rw [HFI.out] at e0 e1
          simp only at e0 e1
          have q0 : (0 : Int) ≤ (p : Int) := by omega
          have q1 : (p : Int) < ((p + 1 : Nat) : Int) := by omega
          have q1b : p < p + 1 := by omega
          rw [hlp]
          by_cases k3 : ki = 3
          · have HSN := hide (HSN0.out (fun x hx h => absurd k3 h))
            have b3 : (ki != 3) = false := by simpa using k3
            clear HSN0 b0 b1 b2 f2 k3
            go_quiet (fail)
            have oq := (Only.refl [] w2).drewN nq
            have hS9 := HS2.out.only0 oq
            have hO9 := hide (HO2.out.trans0 oq)
            have hE9 := HE.out.only0 hO9.out
            generalize w2.drewN nq = w9 at hS9 hO9 hE9 ⊢
            obtain ⟨a5, eA, e0, e1⟩ := hE9 i hlt
            injection eA with eA
            subst eA
            rw [HFI.out] at e0 e1
            simp only at e0 e1
            have hll : l.length ≤ 2000000 := by rw [hl.out]; have := strF_len (evL i f); rw [evL_len] at this; omega
            obtain ⟨g', c', w3, hrun, hS3, o3, hgg⟩ := app_st w9 w.heap.size (some ⟨gB, 0, none⟩) d l ⟨⟨ki, mi⟩, 1⟩ hS9 hll (by have := hO9.out.size; omega)
            have HS3 := hide hS3
            have hge := own_ge hS9
            have HO3 := hide (hO9.out.trans o3 (fun x hx => .inr (hge x hx).1))
            simp only at hrun
            rw [hlp] at hrun
            clear hS3 hS9 hge o3 oq hE9 hgg
            go_wp2_with fail
            go_roundw
            case rel => exact ⟨i + 1, l ++ [⟨⟨ki, mi⟩, 1⟩], some ⟨g', 0, none⟩, c', by omega, (by simp <;> omega), by go_num, HSN, HALL2, HS3, HO3⟩
            case measure => simp [intOf]; omega
          · have b3 : (ki != 3) = true := by simpa using k3
            have EQ := fun V => eqEv x.ev.kind x.ev.num ki mi V
            by_cases hxe : x.ev = ⟨ki, mi⟩
            · have t1 : (x.ev.kind == ki && x.ev.num == mi) = true := by rw [hxe]; simp
              rw [t1] at EQ
              have HSN := hide (show xs ++ [⟨⟨ki, mi⟩, x.n + 1⟩] = strF (evL (i + 1) f) by
                rw [evL_succ, HFI.out]
                exact (strF_snoc_same k3 HM.out hxe (evL i f) xs (evL_all hall.out) (by rw [← hl.out]; exact hxs)).symm)
              have hxn := strF_n (evL i f) x (by rw [← hl.out, hxs]; simp)
              have hxg := strF_ge (evL i f) x (by rw [← hl.out, hxs]; simp)
              rw [evL_len] at hxn
              have HXS := hide hxs
              have HXE := hide hxe
              have HPL := hide hp
              clear HSN0 t1 hxs hxe hp
              go_quiet (fail)
              have oq := (Only.refl [] w2).drewN nq
              have hS9 := HS2.out.only0 oq
              have hO9 := hide (HO2.out.trans0 oq)
              generalize w2.drewN nq = w9 at hS9 hO9 ⊢
              clear b0 b1 b2 f2 EQ e0 e1 oq
              obtain ⟨gB', eB, b0, b1, b2⟩ := hS9.cells (k := p) (x := x) (by rw [HXS.out, ← HPL.out, List.getElem?_append_right (Nat.le_refl _)]; simp)
              injection eB with eB
              injection eB with eB _
              subst eB
              have f2 : w9.frozen? ⟨gB, p * 3 + 2, none⟩ = false := by obtain ⟨g0, e, _, h2⟩ := own_cell hS9 (by omega); injection e with e; injection e with e _; subst e; exact h2 _
              have HS3 := hide (show Ss (w9.setCell ⟨gB, p * 3 + 2, none⟩ (.int .i64 (x.n + 1))) w.heap.size (some ⟨gB, 0, none⟩) d (xs ++ [⟨⟨ki, mi⟩, x.n + 1⟩]) by
                have h1 := own_setN hS9 (p * 3 + 2) (.int .i64 (x.n + 1)) (by omega)
                have e2 : (StV l).set (p * 3 + 2) (.int .i64 (x.n + 1)) = StV (xs ++ [⟨⟨ki, mi⟩, x.n + 1⟩]) := by rw [HXS.out, ← HPL.out, StV_bump, HXE.out]
                rw [e2] at h1
                have e3 : (xs ++ [⟨⟨ki, mi⟩, x.n + 1⟩] : List Str).length = l.length := by rw [HXS.out]; simp
                unfold Ss
                rw [e3]
                exact h1)
              have hge := own_ge hS9 gB (by simp [blkOf])
              have HO3 := hide (hO9.out.setCell (p := ⟨gB, p * 3 + 2, none⟩) (.inr hge.1) (.int .i64 (x.n + 1)))
              clear hS9 hge b0 b1
              go_wp2_with fail
              go_roundw
              case rel => exact ⟨i + 1, xs ++ [⟨⟨ki, mi⟩, x.n + 1⟩], some ⟨gB, 0, none⟩, d, by omega, (by simp [HPL.out]), by go_num, HSN, HALL2, HS3, HO3⟩
              case measure => simp [intOf]; omega
            · have t1 : (x.ev.kind == ki && x.ev.num == mi) = false := by
                rw [Bool.eq_false_iff]
                intro h
                simp at h
                apply hxe
                cases hh : x.ev with
                | mk a b => rw [hh] at h; simp at h; rw [h.1, h.2]
              rw [t1] at EQ
              have HSN := hide (HSN0.out (fun y hy _ => by rw [hxs, List.getLast?_concat] at hy; injection hy with hy; rw [← hy]; exact hxe))
              clear HSN0 f2 hxe t1
              go_quiet (fail)
              clear b0 b1 b2 EQ
              have oq := (Only.refl [] w2).drewN nq
              have hS9 := HS2.out.only0 oq
              have hO9 := hide (HO2.out.trans0 oq)
              have hE9 := HE.out.only0 hO9.out
              generalize w2.drewN nq = w9 at hS9 hO9 hE9 ⊢
              obtain ⟨a5, eA, e0, e1⟩ := hE9 i hlt
              injection eA with eA
              subst eA
              rw [HFI.out] at e0 e1
              simp only at e0 e1
              have hll : l.length ≤ 2000000 := by rw [hl.out]; have := strF_len (evL i f); rw [evL_len] at this; omega
              obtain ⟨g', c', w3, hrun, hS3, o3, hgg⟩ := app_st w9 w.heap.size (some ⟨gB, 0, none⟩) d l ⟨⟨ki, mi⟩, 1⟩ hS9 hll (by have := hO9.out.size; omega)
              have HS3 := hide hS3
              have hge := own_ge hS9
              have HO3 := hide (hO9.out.trans o3 (fun x hx => .inr (hge x hx).1))
              simp only at hrun
              rw [hlp] at hrun
              clear hS3 hS9 hge o3 oq hE9 hgg
              go_wp2_with fail
              go_roundw
              case rel => exact ⟨i + 1, l ++ [⟨⟨ki, mi⟩, 1⟩], some ⟨g', 0, none⟩, c', by omega, (by simp <;> omega), by go_num, HSN, HALL2, HS3, HO3⟩
              case measure => simp [intOf]; omega
    · obtain rfl : i = n := by omega
      have hend : L = l := by rw [← HL.out, hl.out]
      go_wp2_with fail
      go_ret
      exact ⟨⟨B, d, by rw [hend]; rfl, by rw [hend]; exact hS.out⟩, hO.out⟩
end Go.Proofs.YteblhklclcjonaaGreatDoor
