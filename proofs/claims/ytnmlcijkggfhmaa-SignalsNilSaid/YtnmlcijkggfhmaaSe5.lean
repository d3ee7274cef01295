/- Signals: the walks of Clone and Copy. Condition: the signals lie, or are not there. -/
import Derived.Test.YtnmlcijkggfhmaaSe4
import Derived.Deep.MidRow
namespace Go.Proofs.Ytnmlcijkggfhmaa
open Go.RowKit
open Go.Maps (Keyed)
set_option linter.unusedVariables false
set_option linter.all false
set_option maxRecDepth 20000
attribute [local go_sem ↓] app_hide

theorem size61 : (Try.prog.info? 61).map (·.size) = some 36 := by kernel_rfl
theorem SC.one {cs : Array Value} {T S : Nat} {L : List Snt} {M : Nat → Nat} {mb : Nat} (h : SC cs T S L M mb) : cs.all (·.oneCell') = true := by
  refine Array.all_eq_true_iff_forall_mem.2 (fun v hv => ?_)
  obtain ⟨i, hi, rfl⟩ := Array.mem_iff_getElem.1 hv
  have hz := h.size
  have key : ∀ u : Value, cs[i]? = some u → u.oneCell' = true → (cs[i]).oneCell' = true := fun u hu h1 => by
    rw [Array.getElem?_eq_getElem hi] at hu
    obtain rfl := Option.some.inj hu
    exact h1
  rcases Nat.lt_or_ge i 3 with c | c
  · obtain rfl | rfl | rfl : i = 0 ∨ i = 1 ∨ i = 2 := by omega
    · exact key _ h.t rfl
    · exact key _ h.s rfl
    · exact key _ h.u rfl
  rcases Nat.lt_or_ge i 19 with c2 | c2
  · obtain ⟨k, rfl⟩ : ∃ k, i = 3 + k := ⟨i - 3, by omega⟩
    exact key _ (h.m k (by omega)) rfl
  rcases Nat.lt_or_ge i 35 with c3 | c3
  · obtain ⟨k, rfl⟩ : ∃ k, i = 19 + k := ⟨i - 19, by omega⟩
    exact key _ (h.p k (by omega)) rfl
  · obtain rfl : i = 35 := by omega
    exact key _ h.q rfl
theorem SC.setmap {cs : Array Value} {T S : Nat} {L : List Snt} {M : Nat → Nat} {mb : Nat} (h : SC cs T S L M mb) (b : Nat) : SC (cs.setIfInBounds 35 (.map (some b))) T S L M b := by
  have hz := h.size
  exact ⟨by simpa using hz, (set_ne (by omega)).trans h.t, (set_ne (by omega)).trans h.s, (set_ne (by omega)).trans h.u, fun i hi => (set_ne (by omega)).trans (h.m i hi), fun i hi => (set_ne (by omega)).trans (h.p i hi), set_eq (by omega)⟩
theorem app_clone (W : World) (Bs : List Nat) (A : Option Addr) (X : List Int) (cx : Nat) (h : I64 W Bs A X) (h0 : 0 < X.length) (hl : X.length < 40) :
    ∃ c w2, (AppH #[29, 29] 29 #[.slice (some ⟨W.heap.size, 0, none⟩) 0 0, .slice A X.length cx]).run Try.prog (W.alloc (.cells #[] 2)) = .ok (.slice (some ⟨W.heap.size + 1, 0, none⟩) X.length c) w2 ∧
      I64 w2 [W.heap.size + 1] (some ⟨W.heap.size + 1, 0, none⟩) X ∧ (∃ cs, Blk w2 (W.heap.size + 1) 2 cs) ∧ X.length ≤ c ∧ Only [] W w2 := by
  obtain ⟨i0, hi, hz0, hz1, hz2⟩ := info_parts int2_info
  have o1 : Only [] W (W.alloc (.cells #[] 2)) := (Only.refl [] W).alloc _
  obtain ⟨g, o, cs, rfl, _, hb, hc⟩ := h h0
  have hcap : Builtin.nextslicecap (0 + X.length) 0 ≤ 100 := by
    have : ∀ n, n < 40 → Builtin.nextslicecap (0 + n) 0 ≤ 100 := by decide
    exact this _ hl
  have hrun := run_append_grow (P := Try.prog) (W.alloc (.cells #[] 2)) 29 29 2 i0 (.int .i64 0) Try.underlying29 hi hz0 ⟨W.heap.size, 0, none⟩ 0 0 [] (by simp) (by simp) ⟨g, o, none⟩ X.length cx (I64s X) (by simp [I64s, hz1]) (fun j u hj => by
        simp only [I64s, List.getElem?_map, Option.map_eq_some_iff] at hj
        obtain ⟨x, hx, rfl⟩ := hj
        rw [add_mk]
        exact o1.keep0 ((hb.cell (o + j)).trans (hc j x hx))) (by omega) (by omega) (by rw [hz2]; omega)
  rw [app_hide, World.size_alloc, Nat.zero_add] at hrun
  have hb2 := Blk.new (W.alloc (.cells #[] 2)).drew 2 (([] : List Value).toArray ++ (I64s X).toArray ++ Builtin.zeroCells (Value.int .i64 0).cells (grownCap (W.alloc (.cells #[] 2)) X.length 0 2 - X.length))
  rw [World.size_drew, World.size_alloc] at hb2
  refine ⟨_, _, hrun, fun _ => ⟨_, 0, _, rfl, by simp, hb2, fun j x hj => ?_⟩, ⟨_, hb2⟩, grownCap_ge _ _ _ _, o1.drew.alloc _⟩
  have hjl := (List.getElem?_eq_some_iff.1 hj).1
  rw [Nat.zero_add, Array.getElem?_append_left (by simp [I64s]; omega)]
  simp [I64s, hj]
theorem notNil (g o n c : Nat) (W : World) : (binOp .eql 29 (.slice (some ⟨g, o, none⟩) n c) (.slice none 0 0)).run Try.prog W = .ok (.bool false) W := Lib.run_eql_slice_nil W 29 2 _ _ _ _ _ Try.underlying29
theorem clone_any (w : World) (Bs : List Nat) (A : Option Addr) (X : List Int) (cx : Nat) (h : I64 w Bs A X) (h0 : 0 < X.length) (hl : X.length < 40) : Calls Try.prog 44 #[.slice A X.length cx] w fun e w' => ∃ A' c B, e = .returned (.slice A' X.length c) ∧ X.length ≤ c ∧ I64 w' [B] A' X ∧ w.heap.size ≤ B ∧ (∃ cs, Blk w' B 2 cs) ∧ Only [] w w' := by
  obtain ⟨c, w2, e1, I2, B2, hc, o2⟩ := app_clone w Bs A X cx h h0 hl
  obtain ⟨g, o, cs, rfl, _, hb, hcs⟩ := h h0
  have z := fun W => notNil g o X.length cx W
  have B2 := hide B2
  have I2 := hide I2
  clear hb hcs h
  go_enter Try.func44, Try.ntmps44
  go_wp2_with fail
  go_ret
  exact ⟨_, c, _, rfl, hc, I2.out, Nat.le_succ _, B2.out, o2⟩
/-- How far the copy of a map is. -/
structure CInv (w : World) (f f2 : Value → Option Value) (left : Value → Prop) (Cs : List Nat) (L : List Snt) (N : Nat) : Prop where
  a : ∀ key v, f2 key = some v → (f key).isSome = true
  b : ∀ t k, t < 16 → 16 ≤ k → k < 32 → (f (keyV t k)).isSome = true → ¬ left (keyV t k) → ∃ A c, f2 (keyV t k) = some (.slice A (queueOf L t k).length c) ∧ (queueOf L t k).length ≤ c ∧ I64 w Cs A (queueOf L t k)
  c : ∀ b ∈ Cs, N ≤ b ∧ ∃ cs, Blk w b 2 cs
theorem CInv.only {w w' : World} {f f2 : Value → Option Value} {left : Value → Prop} {Cs R : List Nat} {L : List Snt} {N : Nat} (h : CInv w f f2 left Cs L N) (o : Only R w w') (hR : ∀ b ∈ Cs, b ∉ R) : CInv w' f f2 left Cs L N :=
  ⟨h.a, fun t k h1 h2 h3 h4 h5 => by
    obtain ⟨A, c, e, hc, hI⟩ := h.b t k h1 h2 h3 h4 h5
    exact ⟨A, c, e, hc, hI.only o hR⟩, fun b hb => ⟨(h.c b hb).1, by
    obtain ⟨cs, hB⟩ := (h.c b hb).2
    exact ⟨cs, hB.only o (hR b hb)⟩⟩⟩
theorem CInv.step {w : World} {f f2 : Value → Option Value} {left : Value → Prop} {Cs : List Nat} {L : List Snt} {N : Nat} (h : CInv w f f2 left Cs L N) {t k B c : Nat} {A : Option Addr} (hf : (f (keyV t k)).isSome = true) (hB : N ≤ B) (hBk : ∃ cs, Blk w B 2 cs) (hc : (queueOf L t k).length ≤ c) (hI : I64 w [B] A (queueOf L t k)) :
    CInv w f (updV f2 (keyV t k) (.slice A (queueOf L t k).length c)) (fun z => left z ∧ z ≠ keyV t k) (B :: Cs) L N := by
  refine ⟨fun key v hv => ?_, fun t' k' h1 h2 h3 h4 h5 => ?_, fun b hb => ?_⟩
  · by_cases e : key = keyV t k
    · rw [e]; exact hf
    · rw [updV_other _ _ _ _ e] at hv
      exact h.a key v hv
  · by_cases e : keyV t' k' = keyV t k
    · obtain ⟨rfl, rfl⟩ := keyV_inj e
      exact ⟨A, c, updV_same .., hc, hI.mono (by simp)⟩
    · obtain ⟨A', c', e', hc', hI'⟩ := h.b t' k' h1 h2 h3 h4 (fun hl => h5 ⟨hl, e⟩)
      exact ⟨A', c', (updV_other _ _ _ _ e).trans e', hc', hI'.mono (fun b hb => by simp [hb])⟩
  · rcases List.mem_cons.1 hb with rfl | hb
    · exact ⟨hB, hBk⟩
    · exact h.c b hb
theorem copy_no (v : Value) (w : World) (h : NoSig v w) : Calls Try.prog 31 #[v] w fun e w' => e = .returned (.pointer none) ∧ w' = w := by
  have AS := hide (h.self 0)
  clear h
  go_enter Try.func31, Try.ntmps31
  go_wp2_with (go_at_call 25; refine AS.out.mono ?_; rintro e w' ⟨rfl, hw⟩; obtain rfl := hw.symm; clear hw)
  go_ret
  exact ⟨rfl, rfl⟩
section
variable {w : World} {g mb T S : Nat} {L : List Snt} {M : Nat → Nat} {Bs : List Nat}
def CopyE (w w' : World) (T S : Nat) (L : List Snt) (M : Nat → Nat) (e : Ending) : Prop := ∃ g' mb' Cs, e = .returned (ptr g') ∧ SG w' g' mb' T S L M Cs ∧ w.heap.size ≤ g' ∧ w.heap.size ≤ mb' ∧ (∀ b ∈ Cs, w.heap.size ≤ b) ∧ Only [] w w'
set_option maxHeartbeats 8000000 in
theorem copy_spec (h : SG w g mb T S L M Bs) : Calls Try.prog 31 #[ptr g] w fun e w' => CopyE w w' T S L M e := by
  have AS := hide (h.asks w (Only.refl _ _))
  simp only [if_true] at AS
  obtain ⟨cs, hb, hC⟩ := h.cells
  obtain ⟨f, n, hM, hQ⟩ := h.map
  have HR := hide (show w.rangeAt g 0 cs.toList from fun j v hv => by rw [Nat.zero_add, hb.cell]; simpa using hv)
  have HI := hide (show (Try.prog.info? 61).map (·.size) = some cs.toList.length by rw [Array.length_toList, hC.size]; exact size61)
  have HI' := hide (show (Try.prog.info? 61).map (·.size) = some cs.size by rw [hC.size]; exact size61)
  have HS := hide ((by decide +kernel : Z61.size = 36).trans hC.size.symm)
  have H1 := hide hC.one
  have HC := hide (hC.setmap (w.heap.size + 1))
  have HBN := hide (Blk.new (w.alloc (.cells cs 61)) 61 cs)
  have hZ := zero61
  have hmm := @run_makeMap Try.prog
  have HU := hide Try.underlying61
  have HUL := hide (show ∀ t m, 16 ≤ m → (queueOf L t m).length < 40 from fun t m hm => by have := queue_le L t m hm; have := h.inv.used; have := h.s1; omega)
  have k35 := (hb.cell 35).trans hC.q
  have q35 := hC.q
  have HB := hide hb
  have HQ := hide hQ
  have HM := hide hM
  have HG := hide h
  have hlt := hb.lt
  have hmlt := hM.lt
  clear hb hC hM hQ h
  unfold ptr at AS ⊢
  go_enter Try.func31, Try.ntmps31
  obtain ⟨W1, hW1⟩ : ∃ W1, W1 = (w.alloc (.cells (cs.setIfInBounds 35 (.map (some (w.heap.size + 1)))) 61)).alloc (.map #[] 0) := ⟨_, rfl⟩
  have oW1 : Only [] w W1 := by rw [hW1]; exact ((Only.refl [] w).alloc _).alloc _
  have sW1 : W1.heap.size = w.heap.size + 2 := by rw [hW1]; simp
  have bW1 : Blk W1 w.heap.size 61 (cs.setIfInBounds 35 (.map (some (w.heap.size + 1)))) := by
    rw [hW1]
    exact (Blk.new w 61 _).only ((Only.refl [] _).alloc _) (by simp)
  have mW1 : Mp Try.prog 64 W1 (w.heap.size + 1) (fun _ => none) 0 := by
    rw [hW1]
    have := Mp.made Try.prog 64 (w.alloc (.cells (cs.setIfInBounds 35 (.map (some (w.heap.size + 1)))) 61))
    rwa [World.size_alloc] at this
  have MW := hide (HM.out.only oW1 (by simp))
  go_wp2_with (first
    | (go_at_call 25; refine AS.out.mono ?_; rintro e w' ⟨rfl, hw⟩; obtain rfl := hw.symm; clear hw)
    | (refine wpList_load_mid rfl 61 _ rfl g 0 rfl cs.toList _ HR.out HU.out rfl HI.out ?_)
    | (refine wpList_store_new rfl 61 _ _ rfl Z61 cs rfl rfl rfl HI'.out HS.out H1.out ?_)
    | (at_range; simp only [← hW1]; refine wpList_range_rg _ rfl _ 59 rfl 64 29 Try.underlying59 mb n f rfl MW.out ?_; intro w0 hrg0 hg0 hs0; rw [sW1] at hrg0 hs0 ⊢)
    | fail)
  have RG0 := hide hrg0
  have OW0 := hide (oW1.trans0 hg0)
  have BW0 := hide (bW1.only hg0 (by simp))
  have MW0 := hide (mW1.only hg0 (by simp))
  clear hrg0 hg0 oW1 bW1 mW1 MW k35 q35 hW1 sW1 hmm hZ
  go_frame
  go_loopw [5] (fun vk wr => ∃ (left : Value → Prop) (m : Nat) (f2 : Value → Option Value) (n2 : Nat) (Cs : List Nat), Hid (Rg Try.prog 64 wr mb (w.heap.size + 2) f n left m) ∧ Hid (Only [] w wr) ∧ Hid (Blk wr w.heap.size 61 (cs.setIfInBounds 35 (.map (some (w.heap.size + 1))))) ∧ Hid (Mp Try.prog 64 wr (w.heap.size + 1) f2 n2) ∧ Hid (CInv wr f f2 left Cs L (w.heap.size + 3))) (fun _ wr => leftM wr mb (w.heap.size + 2))
  case atStart => exact ⟨_, _, fun _ => none, 0, [], RG0, OW0, BW0, MW0, hide (CInv.mk (fun key v hv => by cases hv) (fun t k _ _ _ hs hl => absurd hs hl) (fun b hb => by simp at hb))⟩
  case round =>
    obtain ⟨left, m, f2, n2, Cs, hR, hO, hB2, hM2, hI2⟩ := hrel
    go_wp2_with (first
      | (at_next; refine wpList_next_rg _ rfl _ rfl 64 (fun x : Nat × Nat × Option Addr × Nat × Nat => Value.agg #[.int .i64 (x.1 : Nat), .int .i64 (x.2.1 : Nat)]) (fun x => Value.slice x.2.2.1 x.2.2.2.1 x.2.2.2.2) mb (w.heap.size + 2) n f left m (by
          intro key v hv
          obtain ⟨t, k, rfl, h1, h2, h3, hq⟩ := HQ.out.1 _ _ hv
          obtain ⟨A, c, e, _⟩ := HQ.out.2 t k h1 h2 h3 hq
          rw [hv, Option.some.injEq] at e
          exact ⟨(t, k, A, _, c), rfl, e⟩) rfl hR.out ?_ ?_)
      | fail)
    · intro hm0 hl0
      have HL0 := hide hl0
      clear hl0
      go_wp2_with fail
      go_ret
      refine ⟨w.heap.size, w.heap.size + 1, Cs, rfl, ⟨⟨_, hB2.out, HC.out⟩, ⟨f2, n2, hM2.out, fun key v hv => ?_, fun t k h1 h2 h3 hq => ?_⟩, HG.out.inv, HG.out.t0, HG.out.t1, HG.out.s0, HG.out.s1, HG.out.mlt, fun b hb => (hI2.out.c b hb).2⟩, by omega, by omega, fun b hb => by have := (hI2.out.c b hb).1; omega, hO.out⟩
      · have hs := hI2.out.a key v hv
        rw [Option.isSome_iff_exists] at hs
        obtain ⟨u, hu⟩ := hs
        exact HQ.out.1 key u hu
      · exact hI2.out.b t k h1 h2 h3 ((HQ.out.some_iff h1 h2 h3).2 hq) (HL0.out _)
    · intro t k A len c w1 m1 hlk hf l hl hrg hlt ho hsz hen
      have hf' : f (keyV t k) = some (.slice A len c) := hf
      obtain ⟨t', k', ek, h1, h2, h3, hq⟩ := HQ.out.1 _ _ hf'
      obtain ⟨rfl, rfl⟩ := keyV_inj ek
      obtain ⟨A0, c0, e0, hcl, hI⟩ := HQ.out.2 t k h1 h2 h3 hq
      rw [hf', Option.some.injEq, Value.slice.injEq] at e0
      obtain ⟨rfl, rfl, rfl⟩ := e0
      have hr0 := hR.out.lt
      have hfs : (f (keyV t k)).isSome = true := by rw [hf']; rfl
      have HFS := hide hfs
      have OW := hide (hO.out.trans ho (fun x hx => by simp at hx; subst hx; exact .inr (by omega)))
      have HRG := hide hrg
      have HLT := hide hlt
      have HLK := hide hl
      have IA := hide (hI.only OW.out (by simp))
      have hql : 0 < (queueOf L t k).length := List.length_pos_iff.2 hq
      have HQL := hide hql
      have BB := hide (hB2.out.only ho (by simp))
      have MB := hide (hM2.out.only ho (by simp))
      have KK := hide (fun V (o : Only [w.heap.size + 1] (w1.alloc (.cells #[.int .i64 (t : Int), .int .i64 (k : Int)] 64)) V) => (by
        have hb := (Blk.new w1 64 #[.int .i64 (t : Int), .int .i64 (k : Int)]).only o (by simp; omega)
        rw [hsz] at hb
        exact ⟨hb.cell 0, hb.cell 1⟩ : V.cell? ⟨wr.heap.size, 0, none⟩ = some (.int .i64 (t : Int)) ∧ V.cell? ⟨wr.heap.size, 1, none⟩ = some (.int .i64 (k : Int))))
      have II := hide (hI2.out.only ho (fun b hb => by have := (hI2.out.c b hb).1; simp; omega))
      have KB := hide (fun V (o : Only [w.heap.size + 1] w1 V) => ((BB.out.only o (by simp)).cell 35).trans HC.out.q)
      have CL := hide (fun V (o : Only [] w1 V) => clone_any V Bs A (queueOf L t k) c (IA.out.only o (by simp)) HQL.out (HUL.out t k h2))
      have hszw : w.heap.size + 3 ≤ w1.heap.size := by omega
      clear hf hf' hlk ek hrg hlt ho hcl hl hI hq hfs hql
      go_wp2_with fail
      refine wp_region_held_drew (S := (fun V => Only [w.heap.size + 1] (w1.alloc (.cells #[.int .i64 (t : Int), .int .i64 (k : Int)] 64)) V)) (by kernel_rfl) ((Only.refl _ _).drew) (fun hHeld => ?_)
      refine wpAnyH_take (i := 0) (oi := ⟨some 24, _, _, _, _, _⟩) (v := ?vcp1) rfl (by kernel_rfl) (by kernel_rfl) (by kernel_rfl) (fun _ _ _ h => h) (Or.inl ⟨by rfl, ?hycp1⟩) (by assumption) ?restcp1
      case hycp1 => (intro V hSw; (try dsimp only at hSw); go_simp; first | done | (with_reducible rfl))
      try simp only [Act.put, List.setIfInBounds_toArray, List.set_cons_zero, List.set_cons_succ]
      refine wpAnyH_take (i := 1) (oi := ⟨some 25, _, _, _, _, _⟩) (v := ?vcp2) rfl (by kernel_rfl) (by kernel_rfl) (by kernel_rfl) (fun _ _ _ h => h) (Or.inl ⟨by rfl, ?hycp2⟩) (by assumption) ?restcp2
      case hycp2 => (intro V hSw; (try dsimp only at hSw); have z := KB.out V (((Only.refl _ w1).alloc _).trans' hSw); go_simp; first | done | (with_reducible rfl))
      try simp only [Act.put, List.setIfInBounds_toArray, List.set_cons_zero, List.set_cons_succ]
      refine wpAnyH_take (i := 2) (oi := ⟨some 26, _, _, _, _, _⟩) (v := ?vcp3) rfl (by kernel_rfl) (by kernel_rfl) (by kernel_rfl) (fun _ _ _ h => h) (Or.inl ⟨by rfl, ?hycp3⟩) (by assumption) ?restcp3
      case hycp3 => (intro V hSw; (try dsimp only at hSw); obtain ⟨z1, z2⟩ := KK.out V hSw; go_simp; first | done | (with_reducible rfl))
      try simp only [Act.put, List.setIfInBounds_toArray, List.set_cons_zero, List.set_cons_succ]
      refine wpAnyH_take (i := 3) (oi := ⟨some 27, _, _, _, _, _⟩) (v := ?vcp4) rfl (by kernel_rfl) (by kernel_rfl) (by kernel_rfl) (fun _ _ _ h => h) (Or.inl ⟨by rfl, ?hycp4⟩) (by assumption) ?restcp4
      case hycp4 => (intro V hSw; (try dsimp only at hSw); go_simp; first | done | (with_reducible rfl))
      try simp only [Act.put, List.setIfInBounds_toArray, List.set_cons_zero, List.set_cons_succ]
      refine wpAnyH_ready (rs := [4]) (by kernel_rfl) (by simp) ?_
      refine AllReadyH.cons (o := ⟨some 28, _, _, _, _, _⟩) rfl (fun K hK => ?_) (AllReadyH.nil)
      rw [if_pos (by rfl)]
      go_simp
      have HD : Only [] (w1.alloc (.cells #[.int .i64 (t : Int), .int .i64 (k : Int)] 64)) (w1.alloc (.cells #[.int .i64 (t : Int), .int .i64 (k : Int)] 64)).drew := (Only.refl [] _).drew
      (with_reducible refine (CL.out _ (((Only.refl [] w1).alloc _).trans0 HD)).mono ?_); rintro e w2 ⟨A', c', B, rfl, hc', I', hB', Bk', o2⟩
      have O2 := hide ((((Only.refl [] w1).alloc (.cells #[.int .i64 (t : Int), .int .i64 (k : Int)] 64)).trans0 HD).trans0 o2)
      have O2' := hide (HD.trans0 o2)
      have OS2 := hide (O2'.out.mono (T := [w.heap.size + 1]) (by simp))
      have C' := hide hc'
      have IX0 := hide I'
      have BK := hide Bk'
      have hB2' : w.heap.size + 3 ≤ B := by
        have := HD.size
        simp at hB' this
        omega
      obtain ⟨w3, e2, M3, o3⟩ := (MB.out.only O2.out (by simp)).put keyed Try.underlying59 HLK.out (.slice A' (queueOf L t k).length c') (updV f2 (keyV t k) (.slice A' (queueOf L t k).length c')) (updV_same ..) (fun k hk => updV_other _ _ _ k hk)
      have MX := hide M3
      have OS := hide (O2'.out.mono (T := [w.heap.size + 1]) (by simp) |>.trans' o3)
      have RGX := hide ((HRG.out.only O2.out (by simp) (by simp)).only o3 (by simp; omega) (by simp))
      have OX := hide ((OW.out.trans0 O2.out).trans o3 (fun x hx => .inr (by simp at hx; omega)))
      have BX := hide ((BB.out.only O2.out (by simp)).only o3 (by simp))
      have IX := hide (((II.out.only O2.out (by simp)).only o3 (fun b hb => by have := (II.out.c b hb).1; simp; omega)).step HFS.out hB2' (by obtain ⟨cs, hcs⟩ := BK.out; exact ⟨cs, hcs.only o3 (by simp; omega)⟩) C'.out (IX0.out.only o3 (by simp; omega)))
      clear hc' I' Bk' o2 M3 o3
      try dsimp only
      refine hK.out _ _ (OS2.out) (fun hHeld => ?_)
      clear hK K
      try simp only [Act.put, List.setIfInBounds_toArray, List.set_cons_zero, List.set_cons_succ]
      refine wpAnyH_ready (rs := [5]) (by kernel_rfl) (by simp) ?_
      refine AllReadyH.cons (o := ⟨none, _, _, _, _, _⟩) rfl (fun K hK => ?_) (AllReadyH.nil)
      rw [if_pos (by rfl)]
      go_simp
      try dsimp only
      refine hK.out _ _ (OS.out) (fun hHeld => ?_)
      clear hK K
      try simp only [Act.put, List.setIfInBounds_toArray, List.set_cons_zero, List.set_cons_succ]
      refine wpAnyH_done (by kernel_rfl) ?_ _
      go_wp2_with fail
      go_roundw
      case rel => exact ⟨_, m1, _, _, _, hide RGX.out, hide OX.out, hide BX.out, hide MX.out, hide IX.out⟩
      case measure => rw [RGX.out.left_eq, hR.out.left_eq]; exact HLT.out

end
end Go.Proofs.Ytnmlcijkggfhmaa
