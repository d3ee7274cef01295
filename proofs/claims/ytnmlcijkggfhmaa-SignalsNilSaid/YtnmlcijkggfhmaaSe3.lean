/- Signals, the program's: the maps of queues compared: the walk of maps.EqualFunc. Condition: both signals lie. -/
import Derived.Test.YtnmlcijkggfhmaaSe2
namespace Go.Proofs.Ytnmlcijkggfhmaa
open Go.RowKit
open Go.Maps (Keyed)
set_option linter.unusedVariables false
set_option linter.all false
set_option maxRecDepth 20000
/-- The length of a map under a name that the walk's simp does not open. -/
def LenH (ts : Array TypeId) (ty : TypeId) (vs : Array Value) : Sem Value := Builtin.len_ ts ty vs

def SameQ (L L' : List Snt) : Prop := ∀ t n, t < 16 → 16 ≤ n → n < 32 → queueOf L t n = queueOf L' t n
def sameQ (L L' : List Snt) : Bool := (List.range 16).all fun t => (List.range 32).all fun n => decide (n < 16) || decide (queueOf L t n = queueOf L' t n)
theorem sameQ_iff (L L' : List Snt) : sameQ L L' = true ↔ SameQ L L' := by
  unfold sameQ SameQ
  simp only [List.all_eq_true, List.mem_range, Bool.or_eq_true, decide_eq_true_eq]
  constructor
  · intro h t n h1 h2 h3
    rcases h t h1 n h3 with h4 | h4
    · omega
    · exact h4
  · intro h t h1 n h3
    rcases Nat.lt_or_ge n 16 with h2 | h2
    · exact .inl h2
    · exact .inr (h t n h1 h2 h3)
theorem QF.some_iff {w : World} {L : List Snt} {Bs : List Nat} {f : Value → Option Value} (h : QF w L Bs f) {t n : Nat} (h1 : t < 16) (h2 : 16 ≤ n) (h3 : n < 32) : (f (keyV t n)).isSome = true ↔ queueOf L t n ≠ [] := by
  constructor
  · intro hs
    rw [Option.isSome_iff_exists] at hs
    obtain ⟨v, hv⟩ := hs
    obtain ⟨t', n', e, _, _, _, hq⟩ := h.1 _ _ hv
    obtain ⟨rfl, rfl⟩ := keyV_inj e
    exact hq
  · intro hq
    obtain ⟨A, c, hv, _⟩ := h.2 t n h1 h2 h3 hq
    rw [hv]; rfl
theorem QF.sub {w : World} {L L' : List Snt} {Bs Cs : List Nat} {f f' : Value → Option Value} (h : QF w L Bs f) (h' : QF w L' Cs f') (hs : SameQ L L') : ∀ k, (f k).isSome = true → (f' k).isSome = true := by
  intro k hk
  have hk' := hk
  rw [Option.isSome_iff_exists] at hk'
  obtain ⟨v, hv⟩ := hk'
  obtain ⟨t, n, rfl, h1, h2, h3, hq⟩ := h.1 _ _ hv
  rw [h'.some_iff h1 h2 h3, ← hs t n h1 h2 h3]
  exact hq
theorem queue_le (L : List Snt) (t n : Nat) (hn : 16 ≤ n) : (queueOf L t n).length ≤ usedOf L := by
  unfold queueOf usedOf
  rw [List.length_map, ← List.countP_eq_length_filter]
  refine List.countP_mono_left (fun x _ hx => ?_)
  simp only [isK, Bool.and_eq_true, beq_iff_eq] at hx
  simp only [decide_eq_true_eq]
  omega
set_option maxHeartbeats 4000000 in
theorem equalfunc_any {w : World} {g ma T S : Nat} {L : List Snt} {M : Nat → Nat} {Bs : List Nat} {g' mb T' S' : Nat} {L' : List Snt} {M' : Nat → Nat} {Cs : List Nat} (h : SG w g ma T S L M Bs) (h' : SG w g' mb T' S' L' M' Cs) :
    Calls Try.prog 38 #[.map (some ma), .map (some mb), .func (.func 39) #[] #[]] w fun e w' => e = .returned (.bool (sameQ L L')) ∧ Only [] w w' := by
  obtain ⟨f, n, hM, hQ⟩ := h.map
  obtain ⟨f', n', hM', hQ'⟩ := h'.map
  have hul : ∀ t m, 16 ≤ m → (queueOf L t m).length ≤ 1000 := fun t m hm => by have := queue_le L t m hm; have := h.inv.used; have := h.s1; omega
  have HUL := hide hul
  have HQ := hide hQ
  have HQ' := hide hQ'
  have HM := hide hM
  have HM' := hide hM'
  have ln1 := fun ty => hM.len Try.underlying59 ty
  have ln2 := fun ty => hM'.len Try.underlying59 ty
  clear h h' hul
  by_cases hn : n = n'
  · have d1 : ((n : Int) != (n' : Int)) = false := by rw [hn]; simp
    have d2 : (n != n') = false := by rw [hn]; simp
    have HN := hide hn
    clear hn hM hM' hQ hQ'
    go_enter Try.func38, Try.ntmps38
    go_wp2_with (first
      | (at_range; refine wpList_range_rg _ rfl _ 59 rfl 64 29 Try.underlying59 ma n f rfl HM.out ?_; intro w0 hrg0 hg0 hs0; clear ln1 ln2)
      | fail)
    go_frame
    have HR0 := hide hrg0
    have HO0 := hide hg0
    clear hrg0 hg0
    go_loopw [8] (fun vk wr => ∃ (left : Value → Prop) (m : Nat), Hid (Rg Try.prog 64 wr ma w.heap.size f n left m) ∧ Hid (Only [] w wr) ∧ Hid (∀ t k, t < 16 → 16 ≤ k → k < 32 → (f (keyV t k)).isSome = true → ¬ left (keyV t k) → queueOf L t k = queueOf L' t k)) (fun _ wr => leftM wr ma w.heap.size)
    case atStart => exact ⟨_, _, HR0, HO0, hide (fun t k _ _ _ hs hl => absurd hs hl)⟩
    case round =>
      obtain ⟨left, m, hR, hO, hA⟩ := hrel
      go_wp2_with (first
        | (at_next; refine wpList_next_rg _ rfl _ rfl 64 (fun x : Nat × Nat × Option Addr × Nat × Nat => Value.agg #[.int .i64 (x.1 : Nat), .int .i64 (x.2.1 : Nat)]) (fun x => Value.slice x.2.2.1 x.2.2.2.1 x.2.2.2.2) ma w.heap.size n f left m (by
            intro key v hv
            obtain ⟨t, k, rfl, h1, h2, h3, hq⟩ := HQ.out.1 _ _ hv
            obtain ⟨A, c, e, _⟩ := HQ.out.2 t k h1 h2 h3 hq
            rw [hv, Option.some.injEq] at e
            exact ⟨(t, k, A, _, c), rfl, e⟩) rfl hR.out ?_ ?_)
        | fail)
      · intro hm0 hl0
        have HT := hide (show sameQ L L' = true by
          rw [sameQ_iff]
          have hsub : ∀ t k, t < 16 → 16 ≤ k → k < 32 → (f (keyV t k)).isSome = true → queueOf L t k = queueOf L' t k := fun t k h1 h2 h3 h4 => hA.out t k h1 h2 h3 h4 (hl0 _)
          have hss : ∀ x, (f x).isSome = true → (f' x).isSome = true := by
            intro x hx
            have hx' := hx
            rw [Option.isSome_iff_exists] at hx'
            obtain ⟨v, hv⟩ := hx'
            obtain ⟨t, k, rfl, h1, h2, h3, hq⟩ := HQ.out.1 _ _ hv
            rw [HQ'.out.some_iff h1 h2 h3, ← hsub t k h1 h2 h3 hx]
            exact hq
          have hback := Mp.same_keys HM.out (HN.out.symm ▸ HM'.out) hss
          intro t k h1 h2 h3
          by_cases hq : queueOf L t k = []
          · by_cases hq' : queueOf L' t k = []
            · rw [hq, hq']
            · exact absurd hq (by rw [← ne_eq, ← HQ.out.some_iff h1 h2 h3]; exact hback _ ((HQ'.out.some_iff h1 h2 h3).2 hq'))
          · exact hsub t k h1 h2 h3 ((HQ.out.some_iff h1 h2 h3).2 hq))
        clear hl0
        go_wp2_with fail
        go_ret
        exact ⟨by rw [HT.out]; rfl, hO.out⟩
      · intro t k A len c w1 m1 hlk hf l hl hrg hlt ho hsz hen
        (try dsimp only at hlk hf hl hrg hen)
        have hf' : f (keyV t k) = some (.slice A len c) := hf
        obtain ⟨t', k', ek, h1, h2, h3, hq⟩ := HQ.out.1 _ _ hf'
        obtain ⟨rfl, rfl⟩ := keyV_inj ek
        obtain ⟨A0, c0, e0, hcl, hI⟩ := HQ.out.2 t k h1 h2 h3 hq
        rw [hf', Option.some.injEq, Value.slice.injEq] at e0
        obtain ⟨rfl, rfl, rfl⟩ := e0
        have hr0 := hR.out.lt
        have OW := hide (hO.out.trans ho (fun x hx => by simp at hx; subst hx; exact .inr (Nat.le_refl _)))
        have hW1 := hide (OW.out.alloc (.cells #[.int .i64 (t : Int), .int .i64 (k : Int)] 64))
        have HRG := hide hrg
        have HLT := hide hlt
        have HLK := hide hl
        clear hf hf' hlk ek hrg hlt ho hcl hl
        by_cases hq' : queueOf L' t k = []
        · have hf2 : f' (keyV t k) = none := by
            cases hx : f' (keyV t k) with
            | none => rfl
            | some v =>
              have := (HQ'.out.some_iff h1 h2 h3).1 (by rw [hx]; rfl)
              exact absurd hq' this
          have e3 := ((HM'.out.only hW1.out (by simp)).miss keyed Try.underlying59 (zero29 _) HLK.out hf2).2
          have HF := hide (show sameQ L L' = false by
            cases hs : sameQ L L'
            · rfl
            · have := (sameQ_iff L L').1 hs t k h1 h2 h3
              rw [hq'] at this
              exact absurd this hq)
          clear hq hq' hf2
          go_wp2_with fail
          go_ret
          exact ⟨by rw [HF.out]; rfl, hW1.out⟩
        · obtain ⟨A2, c2, hf2, hcl2, hI2⟩ := HQ'.out.2 t k h1 h2 h3 hq'
          have e3 := ((HM'.out.only hW1.out (by simp)).look keyed Try.underlying59 HLK.out hf2).2
          have CL := hide (closure_any _ Bs Cs A A2 (queueOf L t k) (queueOf L' t k) c c2 (hI.only hW1.out (by simp)) (hI2.only hW1.out (by simp)) (HUL.out t k h2))
          have HQne := hide hq'
          clear hq hq' hf2 hcl2
          by_cases heq : queueOf L t k = queueOf L' t k
          · rw [decide_eq_true heq] at CL
            have HEQ := hide heq
            clear heq
            go_wp2_with (go_at_call 39; refine CL.out.mono ?_; rintro e w2 ⟨rfl, o2⟩)
            have hR2 := HRG.out.only (((Only.refl [] w1).alloc (.cells #[.int .i64 (t : Int), .int .i64 (k : Int)] 64)).trans0 o2) (by simp) (by simp)
            go_roundw
            case rel => exact ⟨_, m1, hide hR2, hide (hW1.out.trans0 o2), hide (fun t' k' a b c' hs hnl => by
              by_cases e : t' = t ∧ k' = k
              · obtain ⟨rfl, rfl⟩ := e
                exact HEQ.out
              · refine hA.out t' k' a b c' hs (fun hl => hnl ⟨hl, fun ek => ?_⟩)
                obtain ⟨e1, e2⟩ := keyV_inj (t := t') (m := k') (u := t) (k := k) ek
                exact e ⟨e1, e2⟩)⟩
            case measure => rw [hR2.left_eq, hR.out.left_eq]; exact HLT.out
          · rw [decide_eq_false heq] at CL
            have HF := hide (show sameQ L L' = false by
              cases hs : sameQ L L'
              · rfl
              · exact absurd ((sameQ_iff L L').1 hs t k h1 h2 h3) heq)
            clear heq
            go_wp2_with (go_at_call 39; refine CL.out.mono ?_; rintro e w2 ⟨rfl, o2⟩)
            go_ret
            exact ⟨by rw [HF.out]; rfl, hW1.out.trans0 o2⟩
  · have d1 : ((n : Int) != (n' : Int)) = true := by simp; omega
    have d2 : (n != n') = true := by simpa using hn
    have HF := hide (show sameQ L L' = false by
      cases hs : sameQ L L'
      · rfl
      · have h1 := (sameQ_iff L L').1 hs
        have h2 := Mp.size_le hM hM' (hQ.sub hQ' h1)
        have h3 := Mp.size_le hM' hM (hQ'.sub hQ (fun t k a b c => (h1 t k a b c).symm))
        exact absurd (Nat.le_antisymm h2 h3) hn)
    clear hn hM hM' hQ hQ'
    go_enter Try.func38, Try.ntmps38
    go_wp2_with fail
    go_ret
    exact ⟨by rw [HF.out]; rfl, Only.refl _ _⟩
end Go.Proofs.Ytnmlcijkggfhmaa
