/- Signals, the program's: the walk of Next. Condition: the signals lie, or are not there. -/
import Derived.Test.YtnmlcijkggfhmaaSg7
namespace Go.Proofs.Ytnmlcijkggfhmaa
open Go.RowKit
set_option linter.unusedVariables false
set_option linter.all false
set_option maxRecDepth 20000
/-- A cut under a name that the walk's simp does not open. -/
def SliceH (t : TypeId) (x : Value) (lo hi mx : Option Value) : Sem Value := Instr.sliceAt t x lo hi mx
theorem slice_hide (t : TypeId) (x : Value) (lo hi mx : Option Value) : Instr.sliceAt t x lo hi mx = SliceH t x lo hi mx := rfl
attribute [local go_sem ↓] slice_hide
def DelH (ts : Array TypeId) (ty : TypeId) (vs : Array Value) : Sem Value := Builtin.delete_ ts ty vs
theorem del_hide (ts : Array TypeId) (ty : TypeId) (vs : Array Value) : Builtin.delete_ ts ty vs = DelH ts ty vs := rfl
attribute [local go_sem ↓] del_hide
noncomputable def delV (f : Value → Option Value) (k : Value) : Value → Option Value := fun x => @ite _ (x = k) (Classical.propDecidable _) none (f x)
theorem delV_same (f : Value → Option Value) (k : Value) : delV f k k = none := by unfold delV; exact if_pos rfl
theorem delV_other (f : Value → Option Value) (k x : Value) (h : x ≠ k) : delV f k x = f x := by unfold delV; exact if_neg h
/-- The next one, not there. -/
theorem next_none (s : Option Addr) (t : Int) (W : Nat) (w : World) (hP : ∀ V, Only [] w V → Calls Try.prog 23 #[.pointer s, .int .i64 t, .int .u32 W] V fun e w' => e = .returned (sigV none) ∧ Only [] V w') :
    Calls Try.prog 11 #[.pointer s, .int .i64 t, .int .u32 W] w fun e w' => e = .returned (sigV none) ∧ Only [] w w' := by
  have P := hide (hP _ ((Only.refl [] w).alloc (.cells #[.int .i64 0, .int .i64 0] 36)))
  have B0 := hide (Blk.new w 36 #[.int .i64 0, .int .i64 0])
  clear hP
  unfold sigV at P ⊢
  go_enter Try.func11, Try.ntmps11
  go_wp2_with (go_at_call 23; refine P.out.mono ?_; rintro e w1 ⟨rfl, o1⟩; have bR := B0.out.only o1 (by simp); have bX := bR.alloc (.cells #[.int .i64 0, .int .i64 0] 36); have y0 : w1.cell? ⟨w.heap.size, 0, none⟩ = some (.int .i64 0) := (bR.cell 0).trans rfl; have y1 : w1.cell? ⟨w.heap.size, 1, none⟩ = some (.int .i64 0) := (bR.cell 1).trans rfl; have f0 := bR.frozen 0; have f1 := bR.frozen 1; have g0 := bX.frozen 0; have g1 := bX.frozen 1; have x0 := (bX.cell 0).trans (rfl : (#[Value.int .i64 0, .int .i64 0])[0]? = _); have x1 := (bX.cell 1).trans (rfl : (#[Value.int .i64 0, .int .i64 0])[1]? = _); have hs1 := o1.size; rw [World.size_alloc] at hs1; have O1 := hide o1; have BX := hide bX; clear o1 bR bX)
  exact bodyPost_ret (v := .tuple #[.agg #[.int .i64 0, .int .i64 0], .bool false]) (by simp [results, Try.results11, go_sem, y0, y1, f0, f1, g0, g1, x0, x1]) rfl ⟨rfl, ((((Only.refl [] w).alloc _).trans0 O1.out).alloc _).trans (((Only.refl [w.heap.size] _).setCell (p := ⟨w.heap.size, 0, none⟩) (.inl (by simp)) _).setCell (p := ⟨w.heap.size, 1, none⟩) (.inl (by simp)) _) (by simp)⟩
theorem SC.usedOnly {cs : Array Value} {T S : Nat} {L : List Snt} {M : Nat → Nat} {mb : Nat} (h : SC cs T S L M mb) (L' : List Snt) (ho : ∀ i, pendOf L' i = pendOf L i) :
    SC (cs.setIfInBounds 2 (.int .i64 (usedOf L' : Nat))) T S L' M mb := by
  have hz := h.size
  exact ⟨by simp [hz], (set_ne (by omega)).trans h.t, (set_ne (by omega)).trans h.s, set_eq (by omega), fun i hi => (set_ne (by omega)).trans (h.m i hi), fun i hi => (set_ne (by omega)).trans (by rw [ho]; exact h.p i hi), (set_ne (by omega)).trans h.q⟩
/-- The map of queues when one of a number was taken. -/
theorem QF.take {w w' : World} {L : List Snt} {Bs S : List Nat} {f f' : Value → Option Value} (h : QF w L Bs f) (o : Only S w w') (hS : ∀ b ∈ Bs, b ∉ S) {t n : Nat}
    (hother : ∀ x, x ≠ keyV t n → f' x = f x) (hnone : 16 ≤ n → (queueOf L t n).tail = [] → f' (keyV t n) = none) (hlow : n < 16 → f' (keyV t n) = none)
    (hsome : 16 ≤ n → (queueOf L t n).tail ≠ [] → ∃ A c, f' (keyV t n) = some (.slice A (queueOf L t n).tail.length c) ∧ (queueOf L t n).tail.length ≤ c ∧ I64 w' Bs A (queueOf L t n).tail) (ht : t < 16) (hn : n < 32) : QF w' (takeL L t n) Bs f' := by
  refine ⟨fun k v hk => ?_, fun u m h1 h2 h3 h4 => ?_⟩
  · by_cases e : k = keyV t n
    · subst e
      have h16 : 16 ≤ n := by
        rcases Nat.lt_or_ge n 16 with hl | hl
        · rw [hlow hl] at hk; cases hk
        · exact hl
      have hq : (queueOf L t n).tail ≠ [] := fun hq => by rw [hnone h16 hq] at hk; cases hk
      exact ⟨t, n, rfl, ht, h16, hn, by rw [take_queue, if_pos ⟨rfl, rfl⟩]; exact hq⟩
    · rw [hother k e] at hk
      obtain ⟨u, m, e1, e2, e3, e4, e5⟩ := h.1 k v hk
      refine ⟨u, m, e1, e2, e3, e4, ?_⟩
      rw [take_queue, if_neg (fun hc => by obtain ⟨rfl, rfl⟩ := hc; exact e e1)]
      exact e5
  · rw [take_queue] at h4 ⊢
    by_cases e : t = u ∧ n = m
    · obtain ⟨rfl, rfl⟩ := e
      rw [if_pos ⟨rfl, rfl⟩] at h4 ⊢
      exact hsome h2 h4
    · rw [if_neg e] at h4 ⊢
      obtain ⟨A, c, a1, a2, a3⟩ := h.2 u m h1 h2 h3 h4
      refine ⟨A, c, ?_, a2, a3.only o hS⟩
      rw [hother _ (fun ek => by obtain ⟨rfl, rfl⟩ := keyV_inj ek; exact e ⟨rfl, rfl⟩)]
      exact a1
theorem SG.again {w V : World} {g mb T S : Nat} {L L' : List Snt} {M : Nat → Nat} {Bs R : List Nat} (h : SG w g mb T S L M Bs) (o : Only R w V) (hR : ∀ b ∈ Bs, b ∉ R) (hc : ∃ cs, Blk V g 61 cs ∧ SC cs T S L' M mb) (hm : ∃ f n, Mp Try.prog 64 V mb f n ∧ QF V L' Bs f) (hi : SInv T S L') : SG V g mb T S L' M Bs :=
  ⟨hc, hm, hi, h.t0, h.t1, h.s0, h.s1, h.mlt, fun b hb => by
    obtain ⟨cs, h2⟩ := h.bs b hb
    exact ⟨cs, h2.only o (hR b hb)⟩⟩
set_option maxHeartbeats 4000000 in
theorem next_low {w : World} {g mb T S : Nat} {L : List Snt} {M : Nat → Nat} {Bs : List Nat} (h : SG w g mb T S L M Bs) (t n : Nat) (v : Int) (W : Nat) (ht : t < T) (h1 : 1 ≤ n) (h2 : n < 16) (hh : hasB L t n = true)
    (hP : ∀ V, Only [] w V → Calls Try.prog 23 #[ptr g, .int .i64 t, .int .u32 W] V fun e w' => e = .returned (.tuple #[.agg #[.int .i64 n, .int .i64 v], .bool true]) ∧ Only [] V w') :
    Calls Try.prog 11 #[ptr g, .int .i64 t, .int .u32 W] w fun e w' => e = .returned (.tuple #[.agg #[.int .i64 n, .int .i64 v], .bool true]) ∧ SG w' g mb T S (takeL L t n) M Bs ∧ Only [g, mb] w w' := by
  have P := hide (hP _ ((Only.refl [] w).alloc (.cells #[.int .i64 0, .int .i64 0] 36)))
  have B0 := hide (Blk.new w 36 #[.int .i64 0, .int .i64 0])
  have HGw := hide h
  have HH := hide hh
  have hgl0 := h.lt.1
  have hbl0 := hide h.lt.2.2
  have hml0 := h.lt.2.1
  have d3 : decide (16 ≤ (n : Int)) = false := decide_eq_false (by omega)
  clear hP hh h
  unfold ptr at P ⊢
  go_enter Try.func11, Try.ntmps11
  go_wp2_with (go_at_call 23; refine P.out.mono ?_; rintro e w1 ⟨rfl, o1⟩; have bR := B0.out.only o1 (by simp); have bX := bR.alloc (.cells #[.int .i64 (n : Int), .int .i64 v] 36); have y0 : w1.cell? ⟨w.heap.size, 0, none⟩ = some (.int .i64 0) := (bR.cell 0).trans rfl; have y1 : w1.cell? ⟨w.heap.size, 1, none⟩ = some (.int .i64 0) := (bR.cell 1).trans rfl; have f0 := bR.frozen 0; have f1 := bR.frozen 1; have g0 := bX.frozen 0; have g1 := bX.frozen 1; have x0 := (bX.cell 0).trans (rfl : (#[Value.int .i64 0, .int .i64 0])[0]? = _); have x1 := (bX.cell 1).trans (rfl : (#[Value.int .i64 0, .int .i64 0])[1]? = _); have hs1 := o1.size; rw [World.size_alloc] at hs1; have O1 := hide o1; have BX := hide bX; clear o1 bR bX)
  have bK := Blk.new (w1.alloc (.cells #[.int .i64 (n : Int), .int .i64 v] 36)) 64 #[.int .i64 (t : Int), .int .i64 (n : Int)]
  have bX := BX.out.alloc (.cells #[.int .i64 (t : Int), .int .i64 (n : Int)] 64)
  have bN := (Blk.new w1 36 #[.int .i64 (n : Int), .int .i64 v]).alloc (.cells #[.int .i64 (t : Int), .int .i64 (n : Int)] 64)
  have oV : Only [] w ((w1.alloc (.cells #[.int .i64 (n : Int), .int .i64 v] 36)).alloc (.cells #[.int .i64 (t : Int), .int .i64 (n : Int)] 64)) := ((((Only.refl [] w).alloc _).trans0 O1.out).alloc _).alloc _
  rw [World.size_alloc] at bK
  obtain ⟨V, hV⟩ : ∃ V, (w1.alloc (.cells #[.int .i64 (n : Int), .int .i64 v] 36)).alloc (.cells #[.int .i64 (t : Int), .int .i64 (n : Int)] 64) = V := ⟨_, rfl⟩
  rw [hV] at bK bX bN oV ⊢
  obtain ⟨xb, hxb⟩ : ∃ xb, w1.heap.size = xb := ⟨_, rfl⟩
  rw [hxb] at bK bN hs1 ⊢
  obtain ⟨rb, hrb⟩ : ∃ rb, w.heap.size = rb := ⟨_, rfl⟩
  have HRB := hide hrb
  rw [hrb] at bX hs1 hgl0 hml0 hbl0 ⊢
  clear x0 x1 y0 y1 f0 f1 g0 g1 O1 BX B0 P hxb hrb hV
  have h0 : SG V g mb T S L M Bs := HGw.out.only0 oV
  have hne := h0.ne
  have hnb := h0.nb
  have hs1' := h0.s1
  have ht1 := h0.t1
  obtain ⟨cs, hb, hC⟩ := h0.cells
  obtain ⟨f, nm, hM, hQ⟩ := h0.map
  obtain ⟨l, hl⟩ := keyOfV t n (by omega) (by omega)
  have c2 := (hb.cell 2).trans hC.u
  have f2 := hb.frozen 2
  have c19 := (hb.cell (19 + t)).trans (hC.p t (by omega))
  have f19 := hb.frozen (19 + t)
  have c35 := (hb.cell 35).trans hC.q
  have hplt := h0.plt t
  have hus := take_used HH.out
  have i0 : (0 : Int) ≤ (t : Int) := by omega
  have i1 : (t : Int) < 16 := by omega
  have i2 : (0 : Int) ≤ (n : Int) := by omega
  obtain ⟨pd, hpd⟩ : ∃ pd, pendOf L t = pd := ⟨_, rfl⟩
  have HPD := hide hpd
  rw [hpd] at c19 hplt
  clear hpd
  have HC := hide hC
  have HQ := hide hQ
  have H0 := hide h0
  have HB := hide hb
  have HV := hide oV
  have BK := hide bK
  have BX := hide bX
  have BN := hide bN
  clear hC hQ h0 hb oV bK bX bN
  have o4 : Only [g, mb] V V := Only.refl _ _
  have b4 := HB.out
  have M4 := hM
  clear c2 f2
  go_wp2_with fail
  have a35 : V.cell? ⟨g, 35, none⟩ = some (.map (some mb)) := c35
  have bK4 := BK.out.only o4 (by simp; omega)
  have bN4 := BN.out.only o4 (by simp; omega)
  have bX4 := BX.out.only o4 (by simp; omega)
  have K35 := hide (fun U (o : Only [mb] V U) => o.keep a35 (by simpa using Ne.symm hne))
  have KEY := hide (fun U (o : Only [mb] V U) => show U.cell? ⟨xb + 1, 0, none⟩ = some (.int .i64 (t : Int)) ∧ U.cell? ⟨xb + 1, 1, none⟩ = some (.int .i64 (n : Int)) from ⟨((bK4.only o (by simp; omega)).cell 0).trans rfl, ((bK4.only o (by simp; omega)).cell 1).trans rfl⟩)
  have LK := hide (fun U (o : Only [] V U) => ((M4.only o (by simp)).miss keyed Try.underlying59 (zero29 U) hl (by
      cases hf : f (keyV t n) with
      | none => rfl
      | some x =>
        obtain ⟨t', m', e, _, hm, _, _⟩ := HQ.out.1 _ _ hf
        obtain ⟨rfl, rfl⟩ := keyV_inj e
        omega)).1)
  unfold keyV at LK
  refine wp_region_held_drew (S := (fun U => Only [] V U)) (by kernel_rfl) ((Only.refl [] V).drew) (fun hHeld => ?_)
  refine wpAnyH_take (i := 0) (oi := ⟨some 47, _, _, _, _, _⟩) (v := ?vnext_lowb1) rfl (by kernel_rfl) (by kernel_rfl) (by kernel_rfl) (fun _ _ _ h => h) (Or.inl ⟨by rfl, ?hynext_lowb1⟩) (by assumption) ?restnext_lowb1
  case hynext_lowb1 => (intro V hSw; (try dsimp only at hSw); go_simp; first | done | (with_reducible rfl))
  try simp only [Act.put, List.setIfInBounds_toArray, List.set_cons_zero, List.set_cons_succ]
  refine wpAnyH_take (i := 1) (oi := ⟨some 48, _, _, _, _, _⟩) (v := ?vnext_lowb2) rfl (by kernel_rfl) (by kernel_rfl) (by kernel_rfl) (fun _ _ _ h => h) (Or.inl ⟨by rfl, ?hynext_lowb2⟩) (by assumption) ?restnext_lowb2
  case hynext_lowb2 => (intro V hSw; (try dsimp only at hSw); go_simp; first | done | (with_reducible rfl))
  try simp only [Act.put, List.setIfInBounds_toArray, List.set_cons_zero, List.set_cons_succ]
  refine wpAnyH_take (i := 2) (oi := ⟨some 49, _, _, _, _, _⟩) (v := ?vnext_lowb3) rfl (by kernel_rfl) (by kernel_rfl) (by kernel_rfl) (fun _ _ _ h => h) (Or.inl ⟨by rfl, ?hynext_lowb3⟩) (by assumption) ?restnext_lowb3
  case hynext_lowb3 => (intro V hSw; (try dsimp only at hSw); go_simp; first | done | (with_reducible rfl))
  try simp only [Act.put, List.setIfInBounds_toArray, List.set_cons_zero, List.set_cons_succ]
  refine wpAnyH_take (i := 3) (oi := ⟨some 50, _, _, _, _, _⟩) (v := ?vnext_lowb4) rfl (by kernel_rfl) (by kernel_rfl) (by kernel_rfl) (fun _ _ _ h => h) (Or.inl ⟨by rfl, ?hynext_lowb4⟩) (by assumption) ?restnext_lowb4
  case hynext_lowb4 => (intro V hSw; (try dsimp only at hSw); have z := K35.out V (Only.mono hSw (by simp)); go_simp; first | done | (with_reducible rfl))
  try simp only [Act.put, List.setIfInBounds_toArray, List.set_cons_zero, List.set_cons_succ]
  refine wpAnyH_take (i := 4) (oi := ⟨some 51, _, _, _, _, _⟩) (v := ?vnext_lowb5) rfl (by kernel_rfl) (by kernel_rfl) (by kernel_rfl) (fun _ _ _ h => h) (Or.inl ⟨by rfl, ?hynext_lowb5⟩) (by assumption) ?restnext_lowb5
  case hynext_lowb5 => (intro V hSw; (try dsimp only at hSw); obtain ⟨z, z'⟩ := KEY.out V (Only.mono hSw (by simp)); go_simp; first | done | (with_reducible rfl))
  try simp only [Act.put, List.setIfInBounds_toArray, List.set_cons_zero, List.set_cons_succ]
  refine wpAnyH_take (i := 5) (oi := ⟨some 52, _, _, _, _, _⟩) (v := ?vnext_lowb6) rfl (by kernel_rfl) (by kernel_rfl) (by kernel_rfl) (fun _ _ _ h => h) (Or.inl ⟨by rfl, ?hynext_lowb6⟩) (by assumption) ?restnext_lowb6
  case hynext_lowb6 => (intro V hSw; (try dsimp only at hSw); have z := LK.out V hSw; go_simp; first | done | (with_reducible rfl))
  try simp only [Act.put, List.setIfInBounds_toArray, List.set_cons_zero, List.set_cons_succ]
  refine wpAnyH_take (i := 6) (oi := ⟨some 53, _, _, _, _, _⟩) (v := ?vnext_lowb7) rfl (by kernel_rfl) (by kernel_rfl) (by kernel_rfl) (fun _ _ _ h => h) (Or.inl ⟨by rfl, ?hynext_lowb7⟩) (by assumption) ?restnext_lowb7
  case hynext_lowb7 => (intro V hSw; (try dsimp only at hSw); go_simp; first | done | (with_reducible rfl))
  try simp only [Act.put, List.setIfInBounds_toArray, List.set_cons_zero, List.set_cons_succ]
  refine wpAnyH_take (i := 7) (oi := ⟨some 54, _, _, _, _, _⟩) (v := ?vnext_lowb8) rfl (by kernel_rfl) (by kernel_rfl) (by kernel_rfl) (fun _ _ _ h => h) (Or.inl ⟨by rfl, ?hynext_lowb8⟩) (by assumption) ?restnext_lowb8
  case hynext_lowb8 => (intro V hSw; (try dsimp only at hSw); go_simp; first | done | (with_reducible rfl))
  try simp only [Act.put, List.setIfInBounds_toArray, List.set_cons_zero, List.set_cons_succ]
  refine wpAnyH_done (by kernel_rfl) ?_ _
  clear LK
  have hMd := M4.only ((Only.refl [] V).drew.drew) (by simp)
  obtain ⟨w6, e3, M6, o6⟩ := hMd.del (ty := 0) keyed Try.underlying59 hl (delV f (keyV t n)) (delV_same ..) (fun k hk => delV_other _ _ k hk)
  rw [del_hide] at e3
  unfold keyV at e3
  have o60 : Only [mb] V w6 := ((Only.refl [mb] V).drew.drew).trans' o6
  go_wp2_with fail
  refine wp_region_held_drew (S := (fun U => Only [mb] V U)) (by kernel_rfl) (((Only.refl [mb] V).drew.drew)) (fun hHeld => ?_)
  refine wpAnyH_take (i := 0) (oi := ⟨some 55, _, _, _, _, _⟩) (v := ?vnext_lowc1) rfl (by kernel_rfl) (by kernel_rfl) (by kernel_rfl) (fun _ _ _ h => h) (Or.inl ⟨by rfl, ?hynext_lowc1⟩) (by assumption) ?restnext_lowc1
  case hynext_lowc1 => (intro V hSw; (try dsimp only at hSw); go_simp; first | done | (with_reducible rfl))
  try simp only [Act.put, List.setIfInBounds_toArray, List.set_cons_zero, List.set_cons_succ]
  refine wpAnyH_take (i := 1) (oi := ⟨some 56, _, _, _, _, _⟩) (v := ?vnext_lowc2) rfl (by kernel_rfl) (by kernel_rfl) (by kernel_rfl) (fun _ _ _ h => h) (Or.inl ⟨by rfl, ?hynext_lowc2⟩) (by assumption) ?restnext_lowc2
  case hynext_lowc2 => (intro V hSw; (try dsimp only at hSw); go_simp; first | done | (with_reducible rfl))
  try simp only [Act.put, List.setIfInBounds_toArray, List.set_cons_zero, List.set_cons_succ]
  refine wpAnyH_take (i := 2) (oi := ⟨some 57, _, _, _, _, _⟩) (v := ?vnext_lowc3) rfl (by kernel_rfl) (by kernel_rfl) (by kernel_rfl) (fun _ _ _ h => h) (Or.inl ⟨by rfl, ?hynext_lowc3⟩) (by assumption) ?restnext_lowc3
  case hynext_lowc3 => (intro V hSw; (try dsimp only at hSw); go_simp; first | done | (with_reducible rfl))
  try simp only [Act.put, List.setIfInBounds_toArray, List.set_cons_zero, List.set_cons_succ]
  refine wpAnyH_take (i := 3) (oi := ⟨some 58, _, _, _, _, _⟩) (v := ?vnext_lowc4) rfl (by kernel_rfl) (by kernel_rfl) (by kernel_rfl) (fun _ _ _ h => h) (Or.inl ⟨by rfl, ?hynext_lowc4⟩) (by assumption) ?restnext_lowc4
  case hynext_lowc4 => (intro V hSw; (try dsimp only at hSw); have z := K35.out V hSw; go_simp; first | done | (with_reducible rfl))
  try simp only [Act.put, List.setIfInBounds_toArray, List.set_cons_zero, List.set_cons_succ]
  refine wpAnyH_take (i := 4) (oi := ⟨some 59, _, _, _, _, _⟩) (v := ?vnext_lowc5) rfl (by kernel_rfl) (by kernel_rfl) (by kernel_rfl) (fun _ _ _ h => h) (Or.inl ⟨by rfl, ?hynext_lowc5⟩) (by assumption) ?restnext_lowc5
  case hynext_lowc5 => (intro V hSw; (try dsimp only at hSw); obtain ⟨z, z'⟩ := KEY.out V hSw; go_simp; first | done | (with_reducible rfl))
  try simp only [Act.put, List.setIfInBounds_toArray, List.set_cons_zero, List.set_cons_succ]
  refine wpAnyH_ready (rs := [5]) (by kernel_rfl) (by simp) ?_
  refine AllReadyH.cons (o := ⟨none, _, _, _, _, _⟩) rfl (fun K hK => ?_) (AllReadyH.nil)
  rw [if_pos (by rfl)]
  go_simp
  try dsimp only
  refine hK.out _ _ (o60) (fun hHeld => ?_)
  clear hK K
  try simp only [Act.put, List.setIfInBounds_toArray, List.set_cons_zero, List.set_cons_succ]
  refine wpAnyH_done (by kernel_rfl) ?_ _
  have m19 : w6.cell? ⟨g, 19 + t, none⟩ = some (.int .u32 (pd : Int)) := o60.keep ((b4.cell (19 + t)).trans ((HC.out.p t (by omega)).trans (by rw [HPD.out]))) (by simpa using Ne.symm hne)
  have n19 : w6.frozen? ⟨g, 19 + t, none⟩ = false := (o60.frozen (p := ⟨g, 19 + t, none⟩) b4.lt (by simpa using Ne.symm hne)).trans (b4.frozen (19 + t))
  have bN6 := bN4.only o60 (by simp; omega)
  have XN := hide (fun U (o : Only [g] w6 U) => ((bN6.only o (by simp; omega)).cell 0).trans (rfl : (#[Value.int .i64 (n : Int), .int .i64 v])[0]? = _))
  have z6 := andNot_pow pd n hplt (by omega)
  obtain ⟨pd2, hpd2⟩ : ∃ pd2, pd &&& (4294967295 - 2 ^ n) = pd2 := ⟨_, rfl⟩
  have HP2 := hide hpd2
  rw [hpd2] at z6
  clear hpd2 e3
  go_wp2_with fail
  refine wp_region_held_drew (S := (fun U => Only [g] w6 U)) (by kernel_rfl) ((Only.refl [g] w6).drew) (fun hHeld => ?_)
  refine wpAnyH_take (i := 0) (oi := ⟨some 60, _, _, _, _, _⟩) (v := ?vnext_lowd1) rfl (by kernel_rfl) (by kernel_rfl) (by kernel_rfl) (fun _ _ _ h => h) (Or.inl ⟨by rfl, ?hynext_lowd1⟩) (by assumption) ?restnext_lowd1
  case hynext_lowd1 => (intro V hSw; (try dsimp only at hSw); go_simp; first | done | (with_reducible rfl))
  try simp only [Act.put, List.setIfInBounds_toArray, List.set_cons_zero, List.set_cons_succ]
  refine wpAnyH_take (i := 1) (oi := ⟨some 61, _, _, _, _, _⟩) (v := ?vnext_lowd2) rfl (by kernel_rfl) (by kernel_rfl) (by kernel_rfl) (fun _ _ _ h => h) (Or.inl ⟨by rfl, ?hynext_lowd2⟩) (by assumption) ?restnext_lowd2
  case hynext_lowd2 => (intro V hSw; (try dsimp only at hSw); go_simp; first | done | (with_reducible rfl))
  try simp only [Act.put, List.setIfInBounds_toArray, List.set_cons_zero, List.set_cons_succ]
  refine wpAnyH_take (i := 2) (oi := ⟨some 62, _, _, _, _, _⟩) (v := ?vnext_lowd3) rfl (by kernel_rfl) (by kernel_rfl) (by kernel_rfl) (fun _ _ _ h => h) (Or.inl ⟨by rfl, ?hynext_lowd3⟩) (by assumption) ?restnext_lowd3
  case hynext_lowd3 => (intro V hSw; (try dsimp only at hSw); go_simp; first | done | (with_reducible rfl))
  try simp only [Act.put, List.setIfInBounds_toArray, List.set_cons_zero, List.set_cons_succ]
  refine wpAnyH_take (i := 3) (oi := ⟨some 63, _, _, _, _, _⟩) (v := ?vnext_lowd4) rfl (by kernel_rfl) (by kernel_rfl) (by kernel_rfl) (fun _ _ _ h => h) (Or.inl ⟨by rfl, ?hynext_lowd4⟩) (by assumption) ?restnext_lowd4
  case hynext_lowd4 => (intro V hSw; (try dsimp only at hSw); go_simp; first | done | (with_reducible rfl))
  try simp only [Act.put, List.setIfInBounds_toArray, List.set_cons_zero, List.set_cons_succ]
  refine wpAnyH_take (i := 4) (oi := ⟨some 64, _, _, _, _, _⟩) (v := ?vnext_lowd5) rfl (by kernel_rfl) (by kernel_rfl) (by kernel_rfl) (fun _ _ _ h => h) (Or.inl ⟨by rfl, ?hynext_lowd5⟩) (by assumption) ?restnext_lowd5
  case hynext_lowd5 => (intro V hSw; (try dsimp only at hSw); go_simp; first | done | (with_reducible rfl))
  try simp only [Act.put, List.setIfInBounds_toArray, List.set_cons_zero, List.set_cons_succ]
  refine wpAnyH_take (i := 6) (oi := ⟨some 66, _, _, _, _, _⟩) (v := ?vnext_lowd6) rfl (by kernel_rfl) (by kernel_rfl) (by kernel_rfl) (fun _ _ _ h => h) (Or.inl ⟨by rfl, ?hynext_lowd6⟩) (by assumption) ?restnext_lowd6
  case hynext_lowd6 => (intro V hSw; (try dsimp only at hSw); go_simp; first | done | (with_reducible rfl))
  try simp only [Act.put, List.setIfInBounds_toArray, List.set_cons_zero, List.set_cons_succ]
  refine wpAnyH_take (i := 7) (oi := ⟨some 67, _, _, _, _, _⟩) (v := ?vnext_lowd7) rfl (by kernel_rfl) (by kernel_rfl) (by kernel_rfl) (fun _ _ _ h => h) (Or.inl ⟨by rfl, ?hynext_lowd7⟩) (by assumption) ?restnext_lowd7
  case hynext_lowd7 => (intro V hSw; (try dsimp only at hSw); have z := XN.out V hSw; go_simp; first | done | (with_reducible rfl))
  try simp only [Act.put, List.setIfInBounds_toArray, List.set_cons_zero, List.set_cons_succ]
  refine wpAnyH_take (i := 8) (oi := ⟨some 68, _, _, _, _, _⟩) (v := ?vnext_lowd8) rfl (by kernel_rfl) (by kernel_rfl) (by kernel_rfl) (fun _ _ _ h => h) (Or.inl ⟨by rfl, ?hynext_lowd8⟩) (by assumption) ?restnext_lowd8
  case hynext_lowd8 => (intro V hSw; (try dsimp only at hSw); go_simp; first | done | (with_reducible rfl))
  try simp only [Act.put, List.setIfInBounds_toArray, List.set_cons_zero, List.set_cons_succ]
  refine wpAnyH_take (i := 10) (oi := ⟨some 70, _, _, _, _, _⟩) (v := ?vnext_lowd9) rfl (by kernel_rfl) (by kernel_rfl) (by kernel_rfl) (fun _ _ _ h => h) (Or.inl ⟨by rfl, ?hynext_lowd9⟩) (by assumption) ?restnext_lowd9
  case hynext_lowd9 => (intro V hSw; (try dsimp only at hSw); go_simp; first | done | (with_reducible rfl))
  try simp only [Act.put, List.setIfInBounds_toArray, List.set_cons_zero, List.set_cons_succ]
  refine wpAnyH_take (i := 11) (oi := ⟨some 71, _, _, _, _, _⟩) (v := ?vnext_lowd10) rfl (by kernel_rfl) (by kernel_rfl) (by kernel_rfl) (fun _ _ _ h => h) (Or.inl ⟨by rfl, ?hynext_lowd10⟩) (by assumption) ?restnext_lowd10
  case hynext_lowd10 => (intro V hSw; (try dsimp only at hSw); go_simp; first | done | (with_reducible rfl))
  try simp only [Act.put, List.setIfInBounds_toArray, List.set_cons_zero, List.set_cons_succ]
  refine wpAnyH_ready (rs := [5]) (by kernel_rfl) (by simp) ?_
  refine AllReadyH.cons (o := ⟨some 65, _, _, _, _, _⟩) rfl (fun K hK => ?_) (AllReadyH.nil)
  rw [if_pos (by rfl)]
  go_simp
  try dsimp only
  refine hK.out _ _ (hHeld) (fun hHeld => ?_)
  clear hK K
  try simp only [Act.put, List.setIfInBounds_toArray, List.set_cons_zero, List.set_cons_succ]
  refine wpAnyH_take (i := 9) (oi := ⟨some 69, _, _, _, _, _⟩) (v := ?vnext_lowd11) rfl (by kernel_rfl) (by kernel_rfl) (by kernel_rfl) (fun _ _ _ h => h) (Or.inl ⟨by rfl, ?hynext_lowd11⟩) (by assumption) ?restnext_lowd11
  case hynext_lowd11 => (intro V hSw; (try dsimp only at hSw); go_simp; first | done | (with_reducible rfl))
  try simp only [Act.put, List.setIfInBounds_toArray, List.set_cons_zero, List.set_cons_succ]
  refine wpAnyH_take (i := 12) (oi := ⟨some 72, _, _, _, _, _⟩) (v := ?vnext_lowd12) rfl (by kernel_rfl) (by kernel_rfl) (by kernel_rfl) (fun _ _ _ h => h) (Or.inl ⟨by rfl, ?hynext_lowd12⟩) (by assumption) ?restnext_lowd12
  case hynext_lowd12 => (intro V hSw; (try dsimp only at hSw); go_simp; first | done | (with_reducible rfl))
  try simp only [Act.put, List.setIfInBounds_toArray, List.set_cons_zero, List.set_cons_succ]
  refine wpAnyH_ready (rs := [13]) (by kernel_rfl) (by simp) ?_
  refine AllReadyH.cons (o := ⟨none, _, _, _, _, _⟩) rfl (fun K hK => ?_) (AllReadyH.nil)
  rw [if_pos (by rfl)]
  go_simp
  try dsimp only
  refine hK.out _ _ (((Only.refl [g] w6).setCell (p := ⟨g, 19 + t, none⟩) (.inl (by simp)) _).drew) (fun hHeld => ?_)
  clear hK K
  try simp only [Act.put, List.setIfInBounds_toArray, List.set_cons_zero, List.set_cons_succ]
  refine wpAnyH_done (by kernel_rfl) ?_ _
  have b7 := (b4.only o60 (by simpa using Ne.symm hne)).set_ (19 + t) (.int .u32 (pd2 : Int))
  have o67 : Only [g] w6 (w6.setCell ⟨g, 19 + t, none⟩ (.int .u32 (pd2 : Int))) := (Only.refl [g] w6).setCell (p := ⟨g, 19 + t, none⟩) (.inl (by simp)) _
  have M7 := M6.only o67 (by simpa using hne)
  have o7 : Only [g, mb] V (w6.setCell ⟨g, 19 + t, none⟩ (.int .u32 (pd2 : Int))) := (o4.trans o60 (by simp)).trans o67 (by simp)
  obtain ⟨W7, hW7⟩ : ∃ W7, w6.setCell ⟨g, 19 + t, none⟩ (.int .u32 (pd2 : Int)) = W7 := ⟨_, rfl⟩
  rw [hW7] at b7 M7 o7 ⊢
  clear hW7 m19 n19 z6 XN
  have bN7 := BN.out.only o7 (by simp; omega)
  have bX7 := BX.out.only o7 (by simp; omega)
  have x0 := (bN7.cell 0).trans (rfl : (#[Value.int .i64 (n : Int), .int .i64 v])[0]? = _)
  have x1 := (bN7.cell 1).trans (rfl : (#[Value.int .i64 (n : Int), .int .i64 v])[1]? = _)
  have y0 := (bX7.cell 0).trans (rfl : (#[Value.int .i64 0, .int .i64 0])[0]? = _)
  have y1 := (bX7.cell 1).trans (rfl : (#[Value.int .i64 0, .int .i64 0])[1]? = _)
  have y2 := bX7.frozen 0
  have y3 := bX7.frozen 1
  have SF : SG W7 g mb T S (takeL L t n) M Bs := H0.out.again o7 (fun b hb => by have := hnb b hb; simp [this]) ⟨_, b7, HC.out.low (takeL L t n) (by omega) (by have := take_used HH.out; rw [if_neg (by omega)] at this; omega) (by rw [take_pend_last H0.out.inv.n2 (by omega) (by rw [queue_vals H0.out.inv h2 HH.out]; rfl), if_pos rfl, HPD.out, HP2.out]) (fun i hi => by rw [take_pend_last H0.out.inv.n2 (by omega) (by rw [queue_vals H0.out.inv h2 HH.out]; rfl), if_neg (Ne.symm hi)])⟩ ⟨_, _, M7, HQ.out.take o7 (fun b hb => by have := hnb b hb; simp [this]) (t := t) (n := n) (fun x hx => delV_other _ _ x hx) (fun _ _ => delV_same ..) (fun _ => delV_same ..) (fun hc => by omega) (by omega) (by omega)⟩ (H0.out.inv.erase t n)
  have SF := hide SF
  have M7 := hide M7
  have B7 := hide b7
  have O7 := hide o7
  clear M7 b7 o7 bN7 bX7 M4 b4 o4 K35 KEY
  go_wp2_with fail
  exact bodyPost_ret (v := .tuple #[.agg #[.int .i64 (n : Int), .int .i64 v], .bool true]) (by simp [results, Try.results11, go_sem, x0, x1, y0, y1, y2, y3]) rfl ⟨rfl, (SF.out.only (((Only.refl [rb] W7).setCell (p := ⟨rb, 0, none⟩) (.inl (by simp)) _).setCell (p := ⟨rb, 1, none⟩) (.inl (by simp)) _) (by simp; omega) (by simp; omega) (fun b hb => by have := hbl0.out b hb; simp; omega)).only0 (Only.refl [] _).drew,
    ((HV.out.mono (by simp)).trans O7.out (by simp)).trans ((((Only.refl [rb] W7).setCell (p := ⟨rb, 0, none⟩) (.inl (by simp)) _).setCell (p := ⟨rb, 1, none⟩) (.inl (by simp)) _).drew) (by intro x hx; simp at hx; subst hx; right; have := HRB.out; omega)⟩
set_option maxHeartbeats 4000000 in
theorem next_more {w : World} {g mb T S : Nat} {L : List Snt} {M : Nat → Nat} {Bs : List Nat} (h : SG w g mb T S L M Bs) (t n : Nat) (v : Int) (W : Nat) (ht : t < T) (h1 : 1 ≤ n) (h16 : 16 ≤ n) (h2 : n < 32) (hh : hasB L t n = true) (hq : (queueOf L t n).tail ≠ [])
    (hP : ∀ V, Only [] w V → Calls Try.prog 23 #[ptr g, .int .i64 t, .int .u32 W] V fun e w' => e = .returned (.tuple #[.agg #[.int .i64 n, .int .i64 v], .bool true]) ∧ Only [] V w') :
    Calls Try.prog 11 #[ptr g, .int .i64 t, .int .u32 W] w fun e w' => e = .returned (.tuple #[.agg #[.int .i64 n, .int .i64 v], .bool true]) ∧ SG w' g mb T S (takeL L t n) M Bs ∧ Only [g, mb] w w' := by
  have P := hide (hP _ ((Only.refl [] w).alloc (.cells #[.int .i64 0, .int .i64 0] 36)))
  have B0 := hide (Blk.new w 36 #[.int .i64 0, .int .i64 0])
  have HGw := hide h
  have HH := hide hh
  have hgl0 := h.lt.1
  have hbl0 := hide h.lt.2.2
  have hml0 := h.lt.2.1
  have d3 : decide (16 ≤ (n : Int)) = true := decide_eq_true (by omega)
  clear hP hh h
  unfold ptr at P ⊢
  go_enter Try.func11, Try.ntmps11
  go_wp2_with (go_at_call 23; refine P.out.mono ?_; rintro e w1 ⟨rfl, o1⟩; have bR := B0.out.only o1 (by simp); have bX := bR.alloc (.cells #[.int .i64 (n : Int), .int .i64 v] 36); have y0 : w1.cell? ⟨w.heap.size, 0, none⟩ = some (.int .i64 0) := (bR.cell 0).trans rfl; have y1 : w1.cell? ⟨w.heap.size, 1, none⟩ = some (.int .i64 0) := (bR.cell 1).trans rfl; have f0 := bR.frozen 0; have f1 := bR.frozen 1; have g0 := bX.frozen 0; have g1 := bX.frozen 1; have x0 := (bX.cell 0).trans (rfl : (#[Value.int .i64 0, .int .i64 0])[0]? = _); have x1 := (bX.cell 1).trans (rfl : (#[Value.int .i64 0, .int .i64 0])[1]? = _); have hs1 := o1.size; rw [World.size_alloc] at hs1; have O1 := hide o1; have BX := hide bX; clear o1 bR bX)
  have bK := Blk.new (w1.alloc (.cells #[.int .i64 (n : Int), .int .i64 v] 36)) 64 #[.int .i64 (t : Int), .int .i64 (n : Int)]
  have bX := BX.out.alloc (.cells #[.int .i64 (t : Int), .int .i64 (n : Int)] 64)
  have bN := (Blk.new w1 36 #[.int .i64 (n : Int), .int .i64 v]).alloc (.cells #[.int .i64 (t : Int), .int .i64 (n : Int)] 64)
  have oV : Only [] w ((w1.alloc (.cells #[.int .i64 (n : Int), .int .i64 v] 36)).alloc (.cells #[.int .i64 (t : Int), .int .i64 (n : Int)] 64)) := ((((Only.refl [] w).alloc _).trans0 O1.out).alloc _).alloc _
  rw [World.size_alloc] at bK
  obtain ⟨V, hV⟩ : ∃ V, (w1.alloc (.cells #[.int .i64 (n : Int), .int .i64 v] 36)).alloc (.cells #[.int .i64 (t : Int), .int .i64 (n : Int)] 64) = V := ⟨_, rfl⟩
  rw [hV] at bK bX bN oV ⊢
  obtain ⟨xb, hxb⟩ : ∃ xb, w1.heap.size = xb := ⟨_, rfl⟩
  rw [hxb] at bK bN hs1 ⊢
  obtain ⟨rb, hrb⟩ : ∃ rb, w.heap.size = rb := ⟨_, rfl⟩
  have HRB := hide hrb
  rw [hrb] at bX hs1 hgl0 hml0 hbl0 ⊢
  clear x0 x1 y0 y1 f0 f1 g0 g1 O1 BX B0 P hxb hrb hV
  have h0 : SG V g mb T S L M Bs := HGw.out.only0 oV
  have hne := h0.ne
  have hnb := h0.nb
  have hs1' := h0.s1
  have ht1 := h0.t1
  obtain ⟨cs, hb, hC⟩ := h0.cells
  obtain ⟨f, nm, hM, hQ⟩ := h0.map
  obtain ⟨l, hl⟩ := keyOfV t n (by omega) (by omega)
  have c2 := (hb.cell 2).trans hC.u
  have f2 := hb.frozen 2
  have c19 := (hb.cell (19 + t)).trans (hC.p t (by omega))
  have f19 := hb.frozen (19 + t)
  have c35 := (hb.cell 35).trans hC.q
  have hplt := h0.plt t
  have hus := take_used HH.out
  have i0 : (0 : Int) ≤ (t : Int) := by omega
  have i1 : (t : Int) < 16 := by omega
  have i2 : (0 : Int) ≤ (n : Int) := by omega
  obtain ⟨pd, hpd⟩ : ∃ pd, pendOf L t = pd := ⟨_, rfl⟩
  have HPD := hide hpd
  rw [hpd] at c19 hplt
  clear hpd
  have HC := hide hC
  have HQ := hide hQ
  have H0 := hide h0
  have HB := hide hb
  have HV := hide oV
  have BK := hide bK
  have BX := hide bX
  have BN := hide bN
  clear hC hQ h0 hb oV bK bX bN
  obtain ⟨A, c, hlk, hcl, hI, hA⟩ := H0.out.look t n ht h2
  rw [if_pos h16] at hlk hcl hA hus
  have hI := hI h16
  obtain ⟨q, hq'⟩ : ∃ q, queueOf L t n = q := ⟨_, rfl⟩
  have HQU := hide hq'
  rw [hq'] at hlk hcl hI hA hq
  have hq0 : 0 < q.length := by
    have := HH.out
    rw [has_queue, hq'] at this
    cases q with
    | nil => simp at this
    | cons a r => simp
  obtain ⟨gq, o, ccs, rfl, hgB, hbq, hcq⟩ := hI hq0
  obtain ⟨m, hm⟩ : ∃ m, q.length = m := ⟨_, rfl⟩
  have HMm := hide hm
  rw [hm] at hlk hcl hq0
  have htl : q.tail.length = m - 1 := by rw [List.length_tail, hm]
  obtain ⟨u, hu⟩ : ∃ u, usedOf (takeL L t n) = u := ⟨_, rfl⟩
  rw [hu] at hus
  have hub : u + 1 ≤ 32 := by have := H0.out.inv.used; omega
  rw [hus] at c2
  have HU := hide hu
  have HUS := hide hus
  clear hus
  have LK := hide hlk
  obtain ⟨As, hAs⟩ : ∃ As, (if c = 1 then (some ⟨gq, o, none⟩ : Option Addr) else (some (⟨gq, o, none⟩ : Addr)).map (·.add (1 * 1))) = As := ⟨_, rfl⟩
  have CUT := hide (fun U => run_cut_l (P := Try.prog) (s := 1) Try.underlying29 (show (Try.prog.info? 2).map (·.size) = some 1 by kernel_rfl) (some ⟨gq, o, none⟩) m c .i64 (1 : Int) 1 rfl (by omega) U)
  simp only [slice_hide, hAs] at CUT
  have IT : I64 V Bs As q.tail := fun hp => by
    rw [htl] at hp
    rw [← hAs, if_neg (by omega)]
    refine ⟨gq, o + 1, ccs, by simp [add_mk], hgB, hbq, fun j x hj => ?_⟩
    rw [Nat.add_assoc, Nat.add_comm 1 j]
    refine hcq (j + 1) x ?_
    rw [List.getElem?_tail] at hj
    exact hj
  have IT := hide IT
  have HTL := hide htl
  clear hq' hm hlk hI hA hcq hbq hgB hu hAs htl
  obtain ⟨w3, e2, M3, o3⟩ := (hM.only ((Only.refl [] V).drew) (by simp)).put keyed Try.underlying59 hl (.slice As (m - 1) (c - 1)) (updV f (keyV t n) (.slice As (m - 1) (c - 1))) (updV_same ..) (fun k hk => updV_other _ _ _ k hk)
  unfold keyV at e2
  have o30 : Only [mb] V w3 := ((Only.refl [mb] V).drew).trans' o3
  have m2 : w3.cell? ⟨g, 2, none⟩ = some (.int .i64 ((u + 1 : Nat) : Int)) := o30.keep c2 (by simpa using Ne.symm hne)
  have n2 : w3.frozen? ⟨g, 2, none⟩ = false := (o30.frozen (p := ⟨g, 2, none⟩) HB.out.lt (by simpa using Ne.symm hne)).trans f2
  have K35 := hide (fun U (o : Only [mb] V U) => o.keep c35 (by simpa using Ne.symm hne))
  have KEY := hide (fun U (o : Only [mb] V U) => show U.cell? ⟨xb + 1, 0, none⟩ = some (.int .i64 (t : Int)) ∧ U.cell? ⟨xb + 1, 1, none⟩ = some (.int .i64 (n : Int)) from ⟨((BK.out.only o (by simp; omega)).cell 0).trans rfl, ((BK.out.only o (by simp; omega)).cell 1).trans rfl⟩)
  have M3 := hide M3
  have O3 := hide o30
  clear o3 o30 hM
  refine wp_region_held_drew (S := (fun U => Only [mb] V U)) (by kernel_rfl) ((Only.refl [mb] V).drew) (fun hHeld => ?_)
  refine wpAnyH_take (i := 0) (oi := ⟨some 28, _, _, _, _, _⟩) (v := ?vnext_morea1) rfl (by kernel_rfl) (by kernel_rfl) (by kernel_rfl) (fun _ _ _ h => h) (Or.inl ⟨by rfl, ?hynext_morea1⟩) (by assumption) ?restnext_morea1
  case hynext_morea1 => (intro V hSw; (try dsimp only at hSw); go_simp; first | done | (with_reducible rfl))
  try simp only [Act.put, List.setIfInBounds_toArray, List.set_cons_zero, List.set_cons_succ]
  refine wpAnyH_take (i := 1) (oi := ⟨some 29, _, _, _, _, _⟩) (v := ?vnext_morea2) rfl (by kernel_rfl) (by kernel_rfl) (by kernel_rfl) (fun _ _ _ h => h) (Or.inl ⟨by rfl, ?hynext_morea2⟩) (by assumption) ?restnext_morea2
  case hynext_morea2 => (intro V hSw; (try dsimp only at hSw); go_simp; first | done | (with_reducible rfl))
  try simp only [Act.put, List.setIfInBounds_toArray, List.set_cons_zero, List.set_cons_succ]
  refine wpAnyH_take (i := 2) (oi := ⟨some 30, _, _, _, _, _⟩) (v := ?vnext_morea3) rfl (by kernel_rfl) (by kernel_rfl) (by kernel_rfl) (fun _ _ _ h => h) (Or.inl ⟨by rfl, ?hynext_morea3⟩) (by assumption) ?restnext_morea3
  case hynext_morea3 => (intro V hSw; (try dsimp only at hSw); go_simp; first | done | (with_reducible rfl))
  try simp only [Act.put, List.setIfInBounds_toArray, List.set_cons_zero, List.set_cons_succ]
  refine wpAnyH_take (i := 3) (oi := ⟨some 31, _, _, _, _, _⟩) (v := ?vnext_morea4) rfl (by kernel_rfl) (by kernel_rfl) (by kernel_rfl) (fun _ _ _ h => h) (Or.inl ⟨by rfl, ?hynext_morea4⟩) (by assumption) ?restnext_morea4
  case hynext_morea4 => (intro V hSw; (try dsimp only at hSw); have z := K35.out V hSw; go_simp; first | done | (with_reducible rfl))
  try simp only [Act.put, List.setIfInBounds_toArray, List.set_cons_zero, List.set_cons_succ]
  refine wpAnyH_take (i := 4) (oi := ⟨some 32, _, _, _, _, _⟩) (v := ?vnext_morea5) rfl (by kernel_rfl) (by kernel_rfl) (by kernel_rfl) (fun _ _ _ h => h) (Or.inl ⟨by rfl, ?hynext_morea5⟩) (by assumption) ?restnext_morea5
  case hynext_morea5 => (intro V hSw; (try dsimp only at hSw); obtain ⟨z, z'⟩ := KEY.out V hSw; go_simp; first | done | (with_reducible rfl))
  try simp only [Act.put, List.setIfInBounds_toArray, List.set_cons_zero, List.set_cons_succ]
  refine wpAnyH_take (i := 5) (oi := ⟨some 33, _, _, _, _, _⟩) (v := ?vnext_morea6) rfl (by kernel_rfl) (by kernel_rfl) (by kernel_rfl) (fun _ _ _ h => h) (Or.inl ⟨by rfl, ?hynext_morea6⟩) (by assumption) ?restnext_morea6
  case hynext_morea6 => (intro V hSw; (try dsimp only at hSw); go_simp; first | done | (with_reducible rfl))
  try simp only [Act.put, List.setIfInBounds_toArray, List.set_cons_zero, List.set_cons_succ]
  refine wpAnyH_take (i := 6) (oi := ⟨some 34, _, _, _, _, _⟩) (v := ?vnext_morea7) rfl (by kernel_rfl) (by kernel_rfl) (by kernel_rfl) (fun _ _ _ h => h) (Or.inl ⟨by rfl, ?hynext_morea7⟩) (by assumption) ?restnext_morea7
  case hynext_morea7 => (intro V hSw; (try dsimp only at hSw); go_simp; first | done | (with_reducible rfl))
  try simp only [Act.put, List.setIfInBounds_toArray, List.set_cons_zero, List.set_cons_succ]
  refine wpAnyH_take (i := 7) (oi := ⟨some 35, _, _, _, _, _⟩) (v := ?vnext_morea8) rfl (by kernel_rfl) (by kernel_rfl) (by kernel_rfl) (fun _ _ _ h => h) (Or.inl ⟨by rfl, ?hynext_morea8⟩) (by assumption) ?restnext_morea8
  case hynext_morea8 => (intro V hSw; (try dsimp only at hSw); go_simp; first | done | (with_reducible rfl))
  try simp only [Act.put, List.setIfInBounds_toArray, List.set_cons_zero, List.set_cons_succ]
  refine wpAnyH_take (i := 8) (oi := ⟨some 36, _, _, _, _, _⟩) (v := ?vnext_morea9) rfl (by kernel_rfl) (by kernel_rfl) (by kernel_rfl) (fun _ _ _ h => h) (Or.inl ⟨by rfl, ?hynext_morea9⟩) (by assumption) ?restnext_morea9
  case hynext_morea9 => (intro V hSw; (try dsimp only at hSw); have z := K35.out V hSw; go_simp; first | done | (with_reducible rfl))
  try simp only [Act.put, List.setIfInBounds_toArray, List.set_cons_zero, List.set_cons_succ]
  refine wpAnyH_take (i := 9) (oi := ⟨some 37, _, _, _, _, _⟩) (v := ?vnext_morea10) rfl (by kernel_rfl) (by kernel_rfl) (by kernel_rfl) (fun _ _ _ h => h) (Or.inl ⟨by rfl, ?hynext_morea10⟩) (by assumption) ?restnext_morea10
  case hynext_morea10 => (intro V hSw; (try dsimp only at hSw); obtain ⟨z, z'⟩ := KEY.out V hSw; go_simp; first | done | (with_reducible rfl))
  try simp only [Act.put, List.setIfInBounds_toArray, List.set_cons_zero, List.set_cons_succ]
  refine wpAnyH_ready (rs := [10]) (by kernel_rfl) (by simp) ?_
  refine AllReadyH.cons (o := ⟨some 38, _, _, _, _, _⟩) rfl (fun K hK => ?_) (AllReadyH.nil)
  rw [if_pos (by rfl)]
  have z := LK.out _ ((Only.refl [] V).drew)
  go_simp
  try dsimp only
  refine hK.out _ _ (hHeld) (fun hHeld => ?_)
  clear hK K
  try simp only [Act.put, List.setIfInBounds_toArray, List.set_cons_zero, List.set_cons_succ]
  refine wpAnyH_take (i := 11) (oi := ⟨some 39, _, _, _, _, _⟩) (v := ?vnext_morea11) rfl (by kernel_rfl) (by kernel_rfl) (by kernel_rfl) (fun _ _ _ h => h) (Or.inl ⟨by rfl, ?hynext_morea11⟩) (by assumption) ?restnext_morea11
  case hynext_morea11 => (intro V hSw; (try dsimp only at hSw); have z := CUT.out V; go_simp; first | done | (with_reducible rfl))
  try simp only [Act.put, List.setIfInBounds_toArray, List.set_cons_zero, List.set_cons_succ]
  refine wpAnyH_ready (rs := [12]) (by kernel_rfl) (by simp) ?_
  refine AllReadyH.cons (o := ⟨none, _, _, _, _, _⟩) rfl (fun K hK => ?_) (AllReadyH.nil)
  rw [if_pos (by rfl)]
  go_simp
  try dsimp only
  refine hK.out _ _ (O3.out) (fun hHeld => ?_)
  clear hK K
  try simp only [Act.put, List.setIfInBounds_toArray, List.set_cons_zero, List.set_cons_succ]
  refine wpAnyH_done (by kernel_rfl) ?_ _
  clear e2 LK CUT K35 KEY
  go_wp2_with fail
  have o4 : Only [g, mb] V (w3.setCell ⟨g, 2, none⟩ (.int .i64 (u : Int))) := (O3.out.mono (by simp)).setCell (p := ⟨g, 2, none⟩) (.inl (by simp)) _
  have b4 := (HB.out.only O3.out (by simpa using Ne.symm hne)).set_ 2 (.int .i64 (u : Int))
  have M4 := M3.out.only ((Only.refl [g] w3).setCell (p := ⟨g, 2, none⟩) (.inl (by simp)) (.int .i64 (u : Int))) (by simpa using hne)
  obtain ⟨W4, hW4⟩ : ∃ W4, w3.setCell ⟨g, 2, none⟩ (.int .i64 (u : Int)) = W4 := ⟨_, rfl⟩
  rw [hW4] at o4 b4 M4 ⊢
  clear hW4 m2 n2 M3 O3 c2 f2
  have a35 : W4.cell? ⟨g, 35, none⟩ = some (.map (some mb)) := (b4.cell 35).trans ((set_ne (by omega)).trans HC.out.q)
  have bK4 := BK.out.only o4 (by simp; omega)
  have bN4 := BN.out.only o4 (by simp; omega)
  have bX4 := BX.out.only o4 (by simp; omega)
  have K35 := hide (fun U (o : Only [mb] W4 U) => o.keep a35 (by simpa using Ne.symm hne))
  have KEY := hide (fun U (o : Only [mb] W4 U) => show U.cell? ⟨xb + 1, 0, none⟩ = some (.int .i64 (t : Int)) ∧ U.cell? ⟨xb + 1, 1, none⟩ = some (.int .i64 (n : Int)) from ⟨((bK4.only o (by simp; omega)).cell 0).trans rfl, ((bK4.only o (by simp; omega)).cell 1).trans rfl⟩)
  have LK := hide (fun U (o : Only [] W4 U) => ((M4.only o (by simp)).look keyed Try.underlying59 hl (updV_same ..)).1)
  unfold keyV at LK
  have z9 : ((m - 1 : Nat) : Int) ≠ 0 := by
    intro hc
    have : q.tail = [] := List.eq_nil_of_length_eq_zero (by rw [HTL.out]; omega)
    exact hq this
  have z8 : (((m - 1 : Nat) : Int) == 0) = false := by simpa using z9
  clear z9
  refine wp_region_held_drew (S := (fun U => Only [] W4 U)) (by kernel_rfl) ((Only.refl [] W4).drew) (fun hHeld => ?_)
  refine wpAnyH_take (i := 0) (oi := ⟨some 47, _, _, _, _, _⟩) (v := ?vnext_moreb1) rfl (by kernel_rfl) (by kernel_rfl) (by kernel_rfl) (fun _ _ _ h => h) (Or.inl ⟨by rfl, ?hynext_moreb1⟩) (by assumption) ?restnext_moreb1
  case hynext_moreb1 => (intro V hSw; (try dsimp only at hSw); go_simp; first | done | (with_reducible rfl))
  try simp only [Act.put, List.setIfInBounds_toArray, List.set_cons_zero, List.set_cons_succ]
  refine wpAnyH_take (i := 1) (oi := ⟨some 48, _, _, _, _, _⟩) (v := ?vnext_moreb2) rfl (by kernel_rfl) (by kernel_rfl) (by kernel_rfl) (fun _ _ _ h => h) (Or.inl ⟨by rfl, ?hynext_moreb2⟩) (by assumption) ?restnext_moreb2
  case hynext_moreb2 => (intro V hSw; (try dsimp only at hSw); go_simp; first | done | (with_reducible rfl))
  try simp only [Act.put, List.setIfInBounds_toArray, List.set_cons_zero, List.set_cons_succ]
  refine wpAnyH_take (i := 2) (oi := ⟨some 49, _, _, _, _, _⟩) (v := ?vnext_moreb3) rfl (by kernel_rfl) (by kernel_rfl) (by kernel_rfl) (fun _ _ _ h => h) (Or.inl ⟨by rfl, ?hynext_moreb3⟩) (by assumption) ?restnext_moreb3
  case hynext_moreb3 => (intro V hSw; (try dsimp only at hSw); go_simp; first | done | (with_reducible rfl))
  try simp only [Act.put, List.setIfInBounds_toArray, List.set_cons_zero, List.set_cons_succ]
  refine wpAnyH_take (i := 3) (oi := ⟨some 50, _, _, _, _, _⟩) (v := ?vnext_moreb4) rfl (by kernel_rfl) (by kernel_rfl) (by kernel_rfl) (fun _ _ _ h => h) (Or.inl ⟨by rfl, ?hynext_moreb4⟩) (by assumption) ?restnext_moreb4
  case hynext_moreb4 => (intro V hSw; (try dsimp only at hSw); have z := K35.out V (Only.mono hSw (by simp)); go_simp; first | done | (with_reducible rfl))
  try simp only [Act.put, List.setIfInBounds_toArray, List.set_cons_zero, List.set_cons_succ]
  refine wpAnyH_take (i := 4) (oi := ⟨some 51, _, _, _, _, _⟩) (v := ?vnext_moreb5) rfl (by kernel_rfl) (by kernel_rfl) (by kernel_rfl) (fun _ _ _ h => h) (Or.inl ⟨by rfl, ?hynext_moreb5⟩) (by assumption) ?restnext_moreb5
  case hynext_moreb5 => (intro V hSw; (try dsimp only at hSw); obtain ⟨z, z'⟩ := KEY.out V (Only.mono hSw (by simp)); go_simp; first | done | (with_reducible rfl))
  try simp only [Act.put, List.setIfInBounds_toArray, List.set_cons_zero, List.set_cons_succ]
  refine wpAnyH_take (i := 5) (oi := ⟨some 52, _, _, _, _, _⟩) (v := ?vnext_moreb6) rfl (by kernel_rfl) (by kernel_rfl) (by kernel_rfl) (fun _ _ _ h => h) (Or.inl ⟨by rfl, ?hynext_moreb6⟩) (by assumption) ?restnext_moreb6
  case hynext_moreb6 => (intro V hSw; (try dsimp only at hSw); have z := LK.out V hSw; go_simp; first | done | (with_reducible rfl))
  try simp only [Act.put, List.setIfInBounds_toArray, List.set_cons_zero, List.set_cons_succ]
  refine wpAnyH_take (i := 6) (oi := ⟨some 53, _, _, _, _, _⟩) (v := ?vnext_moreb7) rfl (by kernel_rfl) (by kernel_rfl) (by kernel_rfl) (fun _ _ _ h => h) (Or.inl ⟨by rfl, ?hynext_moreb7⟩) (by assumption) ?restnext_moreb7
  case hynext_moreb7 => (intro V hSw; (try dsimp only at hSw); go_simp; first | done | (with_reducible rfl))
  try simp only [Act.put, List.setIfInBounds_toArray, List.set_cons_zero, List.set_cons_succ]
  refine wpAnyH_take (i := 7) (oi := ⟨some 54, _, _, _, _, _⟩) (v := ?vnext_moreb8) rfl (by kernel_rfl) (by kernel_rfl) (by kernel_rfl) (fun _ _ _ h => h) (Or.inl ⟨by rfl, ?hynext_moreb8⟩) (by assumption) ?restnext_moreb8
  case hynext_moreb8 => (intro V hSw; (try dsimp only at hSw); go_simp; first | done | (with_reducible rfl))
  try simp only [Act.put, List.setIfInBounds_toArray, List.set_cons_zero, List.set_cons_succ]
  refine wpAnyH_done (by kernel_rfl) ?_ _
  clear LK
  have b7 := b4
  have M7 := M4
  have o7 := o4
  have bN7 := BN.out.only o7 (by simp; omega)
  have bX7 := BX.out.only o7 (by simp; omega)
  have x0 := (bN7.cell 0).trans (rfl : (#[Value.int .i64 (n : Int), .int .i64 v])[0]? = _)
  have x1 := (bN7.cell 1).trans (rfl : (#[Value.int .i64 (n : Int), .int .i64 v])[1]? = _)
  have y0 := (bX7.cell 0).trans (rfl : (#[Value.int .i64 0, .int .i64 0])[0]? = _)
  have y1 := (bX7.cell 1).trans (rfl : (#[Value.int .i64 0, .int .i64 0])[1]? = _)
  have y2 := bX7.frozen 0
  have y3 := bX7.frozen 1
  have SF : SG W4 g mb T S (takeL L t n) M Bs := H0.out.again o7 (fun b hb => by have := hnb b hb; simp [this]) ⟨_, b7, by have := HC.out.usedOnly (takeL L t n) (fun i => take_pend_more HH.out (by rw [HQU.out]; exact hq) i); rw [HU.out] at this; exact this⟩ ⟨_, _, M7, HQ.out.take o7 (fun b hb => by have := hnb b hb; simp [this]) (t := t) (n := n) (fun x hx => updV_other _ _ _ x hx) (fun _ hc => absurd (by rw [HQU.out] at hc; exact hc) hq) (fun hc => by omega) (fun _ _ => ⟨As, c - 1, by rw [updV_same, HQU.out, HTL.out], by rw [HQU.out, HTL.out]; omega, by rw [HQU.out]; exact IT.out.only o7 (fun b hb => by have := hnb b hb; simp [this])⟩) (by omega) (by omega)⟩ (H0.out.inv.erase t n)
  have SF := hide SF
  have M7 := hide M7
  have B7 := hide b7
  have O7 := hide o7
  clear M7 b7 o7 bN7 bX7 M4 b4 o4 K35 KEY
  go_wp2_with fail
  exact bodyPost_ret (v := .tuple #[.agg #[.int .i64 (n : Int), .int .i64 v], .bool true]) (by simp [results, Try.results11, go_sem, x0, x1, y0, y1, y2, y3]) rfl ⟨rfl, (SF.out.only (((Only.refl [rb] W4).setCell (p := ⟨rb, 0, none⟩) (.inl (by simp)) _).setCell (p := ⟨rb, 1, none⟩) (.inl (by simp)) _) (by simp; omega) (by simp; omega) (fun b hb => by have := hbl0.out b hb; simp; omega)).only0 (Only.refl [] _).drew,
    ((HV.out.mono (by simp)).trans O7.out (by simp)).trans ((((Only.refl [rb] W4).setCell (p := ⟨rb, 0, none⟩) (.inl (by simp)) _).setCell (p := ⟨rb, 1, none⟩) (.inl (by simp)) _).drew) (by intro x hx; simp at hx; subst hx; right; have := HRB.out; omega)⟩
set_option maxHeartbeats 4000000 in
theorem next_last {w : World} {g mb T S : Nat} {L : List Snt} {M : Nat → Nat} {Bs : List Nat} (h : SG w g mb T S L M Bs) (t n : Nat) (v : Int) (W : Nat) (ht : t < T) (h1 : 1 ≤ n) (h16 : 16 ≤ n) (h2 : n < 32) (hh : hasB L t n = true) (hq : (queueOf L t n).tail = [])
    (hP : ∀ V, Only [] w V → Calls Try.prog 23 #[ptr g, .int .i64 t, .int .u32 W] V fun e w' => e = .returned (.tuple #[.agg #[.int .i64 n, .int .i64 v], .bool true]) ∧ Only [] V w') :
    Calls Try.prog 11 #[ptr g, .int .i64 t, .int .u32 W] w fun e w' => e = .returned (.tuple #[.agg #[.int .i64 n, .int .i64 v], .bool true]) ∧ SG w' g mb T S (takeL L t n) M Bs ∧ Only [g, mb] w w' := by
  have P := hide (hP _ ((Only.refl [] w).alloc (.cells #[.int .i64 0, .int .i64 0] 36)))
  have B0 := hide (Blk.new w 36 #[.int .i64 0, .int .i64 0])
  have HGw := hide h
  have HH := hide hh
  have hgl0 := h.lt.1
  have hbl0 := hide h.lt.2.2
  have hml0 := h.lt.2.1
  have d3 : decide (16 ≤ (n : Int)) = true := decide_eq_true (by omega)
  clear hP hh h
  unfold ptr at P ⊢
  go_enter Try.func11, Try.ntmps11
  go_wp2_with (go_at_call 23; refine P.out.mono ?_; rintro e w1 ⟨rfl, o1⟩; have bR := B0.out.only o1 (by simp); have bX := bR.alloc (.cells #[.int .i64 (n : Int), .int .i64 v] 36); have y0 : w1.cell? ⟨w.heap.size, 0, none⟩ = some (.int .i64 0) := (bR.cell 0).trans rfl; have y1 : w1.cell? ⟨w.heap.size, 1, none⟩ = some (.int .i64 0) := (bR.cell 1).trans rfl; have f0 := bR.frozen 0; have f1 := bR.frozen 1; have g0 := bX.frozen 0; have g1 := bX.frozen 1; have x0 := (bX.cell 0).trans (rfl : (#[Value.int .i64 0, .int .i64 0])[0]? = _); have x1 := (bX.cell 1).trans (rfl : (#[Value.int .i64 0, .int .i64 0])[1]? = _); have hs1 := o1.size; rw [World.size_alloc] at hs1; have O1 := hide o1; have BX := hide bX; clear o1 bR bX)
  have bK := Blk.new (w1.alloc (.cells #[.int .i64 (n : Int), .int .i64 v] 36)) 64 #[.int .i64 (t : Int), .int .i64 (n : Int)]
  have bX := BX.out.alloc (.cells #[.int .i64 (t : Int), .int .i64 (n : Int)] 64)
  have bN := (Blk.new w1 36 #[.int .i64 (n : Int), .int .i64 v]).alloc (.cells #[.int .i64 (t : Int), .int .i64 (n : Int)] 64)
  have oV : Only [] w ((w1.alloc (.cells #[.int .i64 (n : Int), .int .i64 v] 36)).alloc (.cells #[.int .i64 (t : Int), .int .i64 (n : Int)] 64)) := ((((Only.refl [] w).alloc _).trans0 O1.out).alloc _).alloc _
  rw [World.size_alloc] at bK
  obtain ⟨V, hV⟩ : ∃ V, (w1.alloc (.cells #[.int .i64 (n : Int), .int .i64 v] 36)).alloc (.cells #[.int .i64 (t : Int), .int .i64 (n : Int)] 64) = V := ⟨_, rfl⟩
  rw [hV] at bK bX bN oV ⊢
  obtain ⟨xb, hxb⟩ : ∃ xb, w1.heap.size = xb := ⟨_, rfl⟩
  rw [hxb] at bK bN hs1 ⊢
  obtain ⟨rb, hrb⟩ : ∃ rb, w.heap.size = rb := ⟨_, rfl⟩
  have HRB := hide hrb
  rw [hrb] at bX hs1 hgl0 hml0 hbl0 ⊢
  clear x0 x1 y0 y1 f0 f1 g0 g1 O1 BX B0 P hxb hrb hV
  have h0 : SG V g mb T S L M Bs := HGw.out.only0 oV
  have hne := h0.ne
  have hnb := h0.nb
  have hs1' := h0.s1
  have ht1 := h0.t1
  obtain ⟨cs, hb, hC⟩ := h0.cells
  obtain ⟨f, nm, hM, hQ⟩ := h0.map
  obtain ⟨l, hl⟩ := keyOfV t n (by omega) (by omega)
  have c2 := (hb.cell 2).trans hC.u
  have f2 := hb.frozen 2
  have c19 := (hb.cell (19 + t)).trans (hC.p t (by omega))
  have f19 := hb.frozen (19 + t)
  have c35 := (hb.cell 35).trans hC.q
  have hplt := h0.plt t
  have hus := take_used HH.out
  have i0 : (0 : Int) ≤ (t : Int) := by omega
  have i1 : (t : Int) < 16 := by omega
  have i2 : (0 : Int) ≤ (n : Int) := by omega
  obtain ⟨pd, hpd⟩ : ∃ pd, pendOf L t = pd := ⟨_, rfl⟩
  have HPD := hide hpd
  rw [hpd] at c19 hplt
  clear hpd
  have HC := hide hC
  have HQ := hide hQ
  have H0 := hide h0
  have HB := hide hb
  have HV := hide oV
  have BK := hide bK
  have BX := hide bX
  have BN := hide bN
  clear hC hQ h0 hb oV bK bX bN
  obtain ⟨A, c, hlk, hcl, hI, hA⟩ := H0.out.look t n ht h2
  rw [if_pos h16] at hlk hcl hA hus
  have hI := hI h16
  obtain ⟨q, hq'⟩ : ∃ q, queueOf L t n = q := ⟨_, rfl⟩
  have HQU := hide hq'
  rw [hq'] at hlk hcl hI hA hq
  have hq0 : 0 < q.length := by
    have := HH.out
    rw [has_queue, hq'] at this
    cases q with
    | nil => simp at this
    | cons a r => simp
  obtain ⟨gq, o, ccs, rfl, hgB, hbq, hcq⟩ := hI hq0
  obtain ⟨m, hm⟩ : ∃ m, q.length = m := ⟨_, rfl⟩
  have HMm := hide hm
  rw [hm] at hlk hcl hq0
  have htl : q.tail.length = m - 1 := by rw [List.length_tail, hm]
  obtain ⟨u, hu⟩ : ∃ u, usedOf (takeL L t n) = u := ⟨_, rfl⟩
  rw [hu] at hus
  have hub : u + 1 ≤ 32 := by have := H0.out.inv.used; omega
  rw [hus] at c2
  have HU := hide hu
  have HUS := hide hus
  clear hus
  have LK := hide hlk
  obtain ⟨As, hAs⟩ : ∃ As, (if c = 1 then (some ⟨gq, o, none⟩ : Option Addr) else (some (⟨gq, o, none⟩ : Addr)).map (·.add (1 * 1))) = As := ⟨_, rfl⟩
  have CUT := hide (fun U => run_cut_l (P := Try.prog) (s := 1) Try.underlying29 (show (Try.prog.info? 2).map (·.size) = some 1 by kernel_rfl) (some ⟨gq, o, none⟩) m c .i64 (1 : Int) 1 rfl (by omega) U)
  simp only [slice_hide, hAs] at CUT
  have IT : I64 V Bs As q.tail := fun hp => by
    rw [htl] at hp
    rw [← hAs, if_neg (by omega)]
    refine ⟨gq, o + 1, ccs, by simp [add_mk], hgB, hbq, fun j x hj => ?_⟩
    rw [Nat.add_assoc, Nat.add_comm 1 j]
    refine hcq (j + 1) x ?_
    rw [List.getElem?_tail] at hj
    exact hj
  have IT := hide IT
  have HTL := hide htl
  clear hq' hm hlk hI hA hcq hbq hgB hu hAs htl
  obtain ⟨w3, e2, M3, o3⟩ := (hM.only ((Only.refl [] V).drew) (by simp)).put keyed Try.underlying59 hl (.slice As (m - 1) (c - 1)) (updV f (keyV t n) (.slice As (m - 1) (c - 1))) (updV_same ..) (fun k hk => updV_other _ _ _ k hk)
  unfold keyV at e2
  have o30 : Only [mb] V w3 := ((Only.refl [mb] V).drew).trans' o3
  have m2 : w3.cell? ⟨g, 2, none⟩ = some (.int .i64 ((u + 1 : Nat) : Int)) := o30.keep c2 (by simpa using Ne.symm hne)
  have n2 : w3.frozen? ⟨g, 2, none⟩ = false := (o30.frozen (p := ⟨g, 2, none⟩) HB.out.lt (by simpa using Ne.symm hne)).trans f2
  have K35 := hide (fun U (o : Only [mb] V U) => o.keep c35 (by simpa using Ne.symm hne))
  have KEY := hide (fun U (o : Only [mb] V U) => show U.cell? ⟨xb + 1, 0, none⟩ = some (.int .i64 (t : Int)) ∧ U.cell? ⟨xb + 1, 1, none⟩ = some (.int .i64 (n : Int)) from ⟨((BK.out.only o (by simp; omega)).cell 0).trans rfl, ((BK.out.only o (by simp; omega)).cell 1).trans rfl⟩)
  have M3 := hide M3
  have O3 := hide o30
  clear o3 o30 hM
  refine wp_region_held_drew (S := (fun U => Only [mb] V U)) (by kernel_rfl) ((Only.refl [mb] V).drew) (fun hHeld => ?_)
  refine wpAnyH_take (i := 0) (oi := ⟨some 28, _, _, _, _, _⟩) (v := ?vnext_lasta1) rfl (by kernel_rfl) (by kernel_rfl) (by kernel_rfl) (fun _ _ _ h => h) (Or.inl ⟨by rfl, ?hynext_lasta1⟩) (by assumption) ?restnext_lasta1
  case hynext_lasta1 => (intro V hSw; (try dsimp only at hSw); go_simp; first | done | (with_reducible rfl))
  try simp only [Act.put, List.setIfInBounds_toArray, List.set_cons_zero, List.set_cons_succ]
  refine wpAnyH_take (i := 1) (oi := ⟨some 29, _, _, _, _, _⟩) (v := ?vnext_lasta2) rfl (by kernel_rfl) (by kernel_rfl) (by kernel_rfl) (fun _ _ _ h => h) (Or.inl ⟨by rfl, ?hynext_lasta2⟩) (by assumption) ?restnext_lasta2
  case hynext_lasta2 => (intro V hSw; (try dsimp only at hSw); go_simp; first | done | (with_reducible rfl))
  try simp only [Act.put, List.setIfInBounds_toArray, List.set_cons_zero, List.set_cons_succ]
  refine wpAnyH_take (i := 2) (oi := ⟨some 30, _, _, _, _, _⟩) (v := ?vnext_lasta3) rfl (by kernel_rfl) (by kernel_rfl) (by kernel_rfl) (fun _ _ _ h => h) (Or.inl ⟨by rfl, ?hynext_lasta3⟩) (by assumption) ?restnext_lasta3
  case hynext_lasta3 => (intro V hSw; (try dsimp only at hSw); go_simp; first | done | (with_reducible rfl))
  try simp only [Act.put, List.setIfInBounds_toArray, List.set_cons_zero, List.set_cons_succ]
  refine wpAnyH_take (i := 3) (oi := ⟨some 31, _, _, _, _, _⟩) (v := ?vnext_lasta4) rfl (by kernel_rfl) (by kernel_rfl) (by kernel_rfl) (fun _ _ _ h => h) (Or.inl ⟨by rfl, ?hynext_lasta4⟩) (by assumption) ?restnext_lasta4
  case hynext_lasta4 => (intro V hSw; (try dsimp only at hSw); have z := K35.out V hSw; go_simp; first | done | (with_reducible rfl))
  try simp only [Act.put, List.setIfInBounds_toArray, List.set_cons_zero, List.set_cons_succ]
  refine wpAnyH_take (i := 4) (oi := ⟨some 32, _, _, _, _, _⟩) (v := ?vnext_lasta5) rfl (by kernel_rfl) (by kernel_rfl) (by kernel_rfl) (fun _ _ _ h => h) (Or.inl ⟨by rfl, ?hynext_lasta5⟩) (by assumption) ?restnext_lasta5
  case hynext_lasta5 => (intro V hSw; (try dsimp only at hSw); obtain ⟨z, z'⟩ := KEY.out V hSw; go_simp; first | done | (with_reducible rfl))
  try simp only [Act.put, List.setIfInBounds_toArray, List.set_cons_zero, List.set_cons_succ]
  refine wpAnyH_take (i := 5) (oi := ⟨some 33, _, _, _, _, _⟩) (v := ?vnext_lasta6) rfl (by kernel_rfl) (by kernel_rfl) (by kernel_rfl) (fun _ _ _ h => h) (Or.inl ⟨by rfl, ?hynext_lasta6⟩) (by assumption) ?restnext_lasta6
  case hynext_lasta6 => (intro V hSw; (try dsimp only at hSw); go_simp; first | done | (with_reducible rfl))
  try simp only [Act.put, List.setIfInBounds_toArray, List.set_cons_zero, List.set_cons_succ]
  refine wpAnyH_take (i := 6) (oi := ⟨some 34, _, _, _, _, _⟩) (v := ?vnext_lasta7) rfl (by kernel_rfl) (by kernel_rfl) (by kernel_rfl) (fun _ _ _ h => h) (Or.inl ⟨by rfl, ?hynext_lasta7⟩) (by assumption) ?restnext_lasta7
  case hynext_lasta7 => (intro V hSw; (try dsimp only at hSw); go_simp; first | done | (with_reducible rfl))
  try simp only [Act.put, List.setIfInBounds_toArray, List.set_cons_zero, List.set_cons_succ]
  refine wpAnyH_take (i := 7) (oi := ⟨some 35, _, _, _, _, _⟩) (v := ?vnext_lasta8) rfl (by kernel_rfl) (by kernel_rfl) (by kernel_rfl) (fun _ _ _ h => h) (Or.inl ⟨by rfl, ?hynext_lasta8⟩) (by assumption) ?restnext_lasta8
  case hynext_lasta8 => (intro V hSw; (try dsimp only at hSw); go_simp; first | done | (with_reducible rfl))
  try simp only [Act.put, List.setIfInBounds_toArray, List.set_cons_zero, List.set_cons_succ]
  refine wpAnyH_take (i := 8) (oi := ⟨some 36, _, _, _, _, _⟩) (v := ?vnext_lasta9) rfl (by kernel_rfl) (by kernel_rfl) (by kernel_rfl) (fun _ _ _ h => h) (Or.inl ⟨by rfl, ?hynext_lasta9⟩) (by assumption) ?restnext_lasta9
  case hynext_lasta9 => (intro V hSw; (try dsimp only at hSw); have z := K35.out V hSw; go_simp; first | done | (with_reducible rfl))
  try simp only [Act.put, List.setIfInBounds_toArray, List.set_cons_zero, List.set_cons_succ]
  refine wpAnyH_take (i := 9) (oi := ⟨some 37, _, _, _, _, _⟩) (v := ?vnext_lasta10) rfl (by kernel_rfl) (by kernel_rfl) (by kernel_rfl) (fun _ _ _ h => h) (Or.inl ⟨by rfl, ?hynext_lasta10⟩) (by assumption) ?restnext_lasta10
  case hynext_lasta10 => (intro V hSw; (try dsimp only at hSw); obtain ⟨z, z'⟩ := KEY.out V hSw; go_simp; first | done | (with_reducible rfl))
  try simp only [Act.put, List.setIfInBounds_toArray, List.set_cons_zero, List.set_cons_succ]
  refine wpAnyH_ready (rs := [10]) (by kernel_rfl) (by simp) ?_
  refine AllReadyH.cons (o := ⟨some 38, _, _, _, _, _⟩) rfl (fun K hK => ?_) (AllReadyH.nil)
  rw [if_pos (by rfl)]
  have z := LK.out _ ((Only.refl [] V).drew)
  go_simp
  try dsimp only
  refine hK.out _ _ (hHeld) (fun hHeld => ?_)
  clear hK K
  try simp only [Act.put, List.setIfInBounds_toArray, List.set_cons_zero, List.set_cons_succ]
  refine wpAnyH_take (i := 11) (oi := ⟨some 39, _, _, _, _, _⟩) (v := ?vnext_lasta11) rfl (by kernel_rfl) (by kernel_rfl) (by kernel_rfl) (fun _ _ _ h => h) (Or.inl ⟨by rfl, ?hynext_lasta11⟩) (by assumption) ?restnext_lasta11
  case hynext_lasta11 => (intro V hSw; (try dsimp only at hSw); have z := CUT.out V; go_simp; first | done | (with_reducible rfl))
  try simp only [Act.put, List.setIfInBounds_toArray, List.set_cons_zero, List.set_cons_succ]
  refine wpAnyH_ready (rs := [12]) (by kernel_rfl) (by simp) ?_
  refine AllReadyH.cons (o := ⟨none, _, _, _, _, _⟩) rfl (fun K hK => ?_) (AllReadyH.nil)
  rw [if_pos (by rfl)]
  go_simp
  try dsimp only
  refine hK.out _ _ (O3.out) (fun hHeld => ?_)
  clear hK K
  try simp only [Act.put, List.setIfInBounds_toArray, List.set_cons_zero, List.set_cons_succ]
  refine wpAnyH_done (by kernel_rfl) ?_ _
  clear e2 LK CUT K35 KEY
  go_wp2_with fail
  have o4 : Only [g, mb] V (w3.setCell ⟨g, 2, none⟩ (.int .i64 (u : Int))) := (O3.out.mono (by simp)).setCell (p := ⟨g, 2, none⟩) (.inl (by simp)) _
  have b4 := (HB.out.only O3.out (by simpa using Ne.symm hne)).set_ 2 (.int .i64 (u : Int))
  have M4 := M3.out.only ((Only.refl [g] w3).setCell (p := ⟨g, 2, none⟩) (.inl (by simp)) (.int .i64 (u : Int))) (by simpa using hne)
  obtain ⟨W4, hW4⟩ : ∃ W4, w3.setCell ⟨g, 2, none⟩ (.int .i64 (u : Int)) = W4 := ⟨_, rfl⟩
  rw [hW4] at o4 b4 M4 ⊢
  clear hW4 m2 n2 M3 O3 c2 f2
  have a35 : W4.cell? ⟨g, 35, none⟩ = some (.map (some mb)) := (b4.cell 35).trans ((set_ne (by omega)).trans HC.out.q)
  have bK4 := BK.out.only o4 (by simp; omega)
  have bN4 := BN.out.only o4 (by simp; omega)
  have bX4 := BX.out.only o4 (by simp; omega)
  have K35 := hide (fun U (o : Only [mb] W4 U) => o.keep a35 (by simpa using Ne.symm hne))
  have KEY := hide (fun U (o : Only [mb] W4 U) => show U.cell? ⟨xb + 1, 0, none⟩ = some (.int .i64 (t : Int)) ∧ U.cell? ⟨xb + 1, 1, none⟩ = some (.int .i64 (n : Int)) from ⟨((bK4.only o (by simp; omega)).cell 0).trans rfl, ((bK4.only o (by simp; omega)).cell 1).trans rfl⟩)
  have LK := hide (fun U (o : Only [] W4 U) => ((M4.only o (by simp)).look keyed Try.underlying59 hl (updV_same ..)).1)
  unfold keyV at LK
  have z9 : m - 1 = 0 := by have := HTL.out; rw [hq] at this; simpa using this.symm
  rw [z9] at LK M4
  refine wp_region_held_drew (S := (fun U => Only [] W4 U)) (by kernel_rfl) ((Only.refl [] W4).drew) (fun hHeld => ?_)
  refine wpAnyH_take (i := 0) (oi := ⟨some 47, _, _, _, _, _⟩) (v := ?vnext_lastb1) rfl (by kernel_rfl) (by kernel_rfl) (by kernel_rfl) (fun _ _ _ h => h) (Or.inl ⟨by rfl, ?hynext_lastb1⟩) (by assumption) ?restnext_lastb1
  case hynext_lastb1 => (intro V hSw; (try dsimp only at hSw); go_simp; first | done | (with_reducible rfl))
  try simp only [Act.put, List.setIfInBounds_toArray, List.set_cons_zero, List.set_cons_succ]
  refine wpAnyH_take (i := 1) (oi := ⟨some 48, _, _, _, _, _⟩) (v := ?vnext_lastb2) rfl (by kernel_rfl) (by kernel_rfl) (by kernel_rfl) (fun _ _ _ h => h) (Or.inl ⟨by rfl, ?hynext_lastb2⟩) (by assumption) ?restnext_lastb2
  case hynext_lastb2 => (intro V hSw; (try dsimp only at hSw); go_simp; first | done | (with_reducible rfl))
  try simp only [Act.put, List.setIfInBounds_toArray, List.set_cons_zero, List.set_cons_succ]
  refine wpAnyH_take (i := 2) (oi := ⟨some 49, _, _, _, _, _⟩) (v := ?vnext_lastb3) rfl (by kernel_rfl) (by kernel_rfl) (by kernel_rfl) (fun _ _ _ h => h) (Or.inl ⟨by rfl, ?hynext_lastb3⟩) (by assumption) ?restnext_lastb3
  case hynext_lastb3 => (intro V hSw; (try dsimp only at hSw); go_simp; first | done | (with_reducible rfl))
  try simp only [Act.put, List.setIfInBounds_toArray, List.set_cons_zero, List.set_cons_succ]
  refine wpAnyH_take (i := 3) (oi := ⟨some 50, _, _, _, _, _⟩) (v := ?vnext_lastb4) rfl (by kernel_rfl) (by kernel_rfl) (by kernel_rfl) (fun _ _ _ h => h) (Or.inl ⟨by rfl, ?hynext_lastb4⟩) (by assumption) ?restnext_lastb4
  case hynext_lastb4 => (intro V hSw; (try dsimp only at hSw); have z := K35.out V (Only.mono hSw (by simp)); go_simp; first | done | (with_reducible rfl))
  try simp only [Act.put, List.setIfInBounds_toArray, List.set_cons_zero, List.set_cons_succ]
  refine wpAnyH_take (i := 4) (oi := ⟨some 51, _, _, _, _, _⟩) (v := ?vnext_lastb5) rfl (by kernel_rfl) (by kernel_rfl) (by kernel_rfl) (fun _ _ _ h => h) (Or.inl ⟨by rfl, ?hynext_lastb5⟩) (by assumption) ?restnext_lastb5
  case hynext_lastb5 => (intro V hSw; (try dsimp only at hSw); obtain ⟨z, z'⟩ := KEY.out V (Only.mono hSw (by simp)); go_simp; first | done | (with_reducible rfl))
  try simp only [Act.put, List.setIfInBounds_toArray, List.set_cons_zero, List.set_cons_succ]
  refine wpAnyH_take (i := 5) (oi := ⟨some 52, _, _, _, _, _⟩) (v := ?vnext_lastb6) rfl (by kernel_rfl) (by kernel_rfl) (by kernel_rfl) (fun _ _ _ h => h) (Or.inl ⟨by rfl, ?hynext_lastb6⟩) (by assumption) ?restnext_lastb6
  case hynext_lastb6 => (intro V hSw; (try dsimp only at hSw); have z := LK.out V hSw; go_simp; first | done | (with_reducible rfl))
  try simp only [Act.put, List.setIfInBounds_toArray, List.set_cons_zero, List.set_cons_succ]
  refine wpAnyH_take (i := 6) (oi := ⟨some 53, _, _, _, _, _⟩) (v := ?vnext_lastb7) rfl (by kernel_rfl) (by kernel_rfl) (by kernel_rfl) (fun _ _ _ h => h) (Or.inl ⟨by rfl, ?hynext_lastb7⟩) (by assumption) ?restnext_lastb7
  case hynext_lastb7 => (intro V hSw; (try dsimp only at hSw); go_simp; first | done | (with_reducible rfl))
  try simp only [Act.put, List.setIfInBounds_toArray, List.set_cons_zero, List.set_cons_succ]
  refine wpAnyH_take (i := 7) (oi := ⟨some 54, _, _, _, _, _⟩) (v := ?vnext_lastb8) rfl (by kernel_rfl) (by kernel_rfl) (by kernel_rfl) (fun _ _ _ h => h) (Or.inl ⟨by rfl, ?hynext_lastb8⟩) (by assumption) ?restnext_lastb8
  case hynext_lastb8 => (intro V hSw; (try dsimp only at hSw); go_simp; first | done | (with_reducible rfl))
  try simp only [Act.put, List.setIfInBounds_toArray, List.set_cons_zero, List.set_cons_succ]
  refine wpAnyH_done (by kernel_rfl) ?_ _
  clear LK
  have hMd := M4.only ((Only.refl [] W4).drew.drew) (by simp)
  obtain ⟨w6, e3, M6, o6⟩ := hMd.del (ty := 0) keyed Try.underlying59 hl (delV (updV f (keyV t n) (.slice As 0 (c - 1))) (keyV t n)) (delV_same ..) (fun k hk => delV_other _ _ k hk)
  rw [del_hide] at e3
  unfold keyV at e3
  have o60 : Only [mb] W4 w6 := ((Only.refl [mb] W4).drew.drew).trans' o6
  go_wp2_with fail
  refine wp_region_held_drew (S := (fun U => Only [mb] W4 U)) (by kernel_rfl) (((Only.refl [mb] W4).drew.drew)) (fun hHeld => ?_)
  refine wpAnyH_take (i := 0) (oi := ⟨some 55, _, _, _, _, _⟩) (v := ?vnext_lastc1) rfl (by kernel_rfl) (by kernel_rfl) (by kernel_rfl) (fun _ _ _ h => h) (Or.inl ⟨by rfl, ?hynext_lastc1⟩) (by assumption) ?restnext_lastc1
  case hynext_lastc1 => (intro V hSw; (try dsimp only at hSw); go_simp; first | done | (with_reducible rfl))
  try simp only [Act.put, List.setIfInBounds_toArray, List.set_cons_zero, List.set_cons_succ]
  refine wpAnyH_take (i := 1) (oi := ⟨some 56, _, _, _, _, _⟩) (v := ?vnext_lastc2) rfl (by kernel_rfl) (by kernel_rfl) (by kernel_rfl) (fun _ _ _ h => h) (Or.inl ⟨by rfl, ?hynext_lastc2⟩) (by assumption) ?restnext_lastc2
  case hynext_lastc2 => (intro V hSw; (try dsimp only at hSw); go_simp; first | done | (with_reducible rfl))
  try simp only [Act.put, List.setIfInBounds_toArray, List.set_cons_zero, List.set_cons_succ]
  refine wpAnyH_take (i := 2) (oi := ⟨some 57, _, _, _, _, _⟩) (v := ?vnext_lastc3) rfl (by kernel_rfl) (by kernel_rfl) (by kernel_rfl) (fun _ _ _ h => h) (Or.inl ⟨by rfl, ?hynext_lastc3⟩) (by assumption) ?restnext_lastc3
  case hynext_lastc3 => (intro V hSw; (try dsimp only at hSw); go_simp; first | done | (with_reducible rfl))
  try simp only [Act.put, List.setIfInBounds_toArray, List.set_cons_zero, List.set_cons_succ]
  refine wpAnyH_take (i := 3) (oi := ⟨some 58, _, _, _, _, _⟩) (v := ?vnext_lastc4) rfl (by kernel_rfl) (by kernel_rfl) (by kernel_rfl) (fun _ _ _ h => h) (Or.inl ⟨by rfl, ?hynext_lastc4⟩) (by assumption) ?restnext_lastc4
  case hynext_lastc4 => (intro V hSw; (try dsimp only at hSw); have z := K35.out V hSw; go_simp; first | done | (with_reducible rfl))
  try simp only [Act.put, List.setIfInBounds_toArray, List.set_cons_zero, List.set_cons_succ]
  refine wpAnyH_take (i := 4) (oi := ⟨some 59, _, _, _, _, _⟩) (v := ?vnext_lastc5) rfl (by kernel_rfl) (by kernel_rfl) (by kernel_rfl) (fun _ _ _ h => h) (Or.inl ⟨by rfl, ?hynext_lastc5⟩) (by assumption) ?restnext_lastc5
  case hynext_lastc5 => (intro V hSw; (try dsimp only at hSw); obtain ⟨z, z'⟩ := KEY.out V hSw; go_simp; first | done | (with_reducible rfl))
  try simp only [Act.put, List.setIfInBounds_toArray, List.set_cons_zero, List.set_cons_succ]
  refine wpAnyH_ready (rs := [5]) (by kernel_rfl) (by simp) ?_
  refine AllReadyH.cons (o := ⟨none, _, _, _, _, _⟩) rfl (fun K hK => ?_) (AllReadyH.nil)
  rw [if_pos (by rfl)]
  go_simp
  try dsimp only
  refine hK.out _ _ (o60) (fun hHeld => ?_)
  clear hK K
  try simp only [Act.put, List.setIfInBounds_toArray, List.set_cons_zero, List.set_cons_succ]
  refine wpAnyH_done (by kernel_rfl) ?_ _
  have m19 : w6.cell? ⟨g, 19 + t, none⟩ = some (.int .u32 (pd : Int)) := o60.keep ((b4.cell (19 + t)).trans ((set_ne (by omega)).trans ((HC.out.p t (by omega)).trans (by rw [HPD.out])))) (by simpa using Ne.symm hne)
  have n19 : w6.frozen? ⟨g, 19 + t, none⟩ = false := (o60.frozen (p := ⟨g, 19 + t, none⟩) b4.lt (by simpa using Ne.symm hne)).trans (b4.frozen (19 + t))
  have bN6 := bN4.only o60 (by simp; omega)
  have XN := hide (fun U (o : Only [g] w6 U) => ((bN6.only o (by simp; omega)).cell 0).trans (rfl : (#[Value.int .i64 (n : Int), .int .i64 v])[0]? = _))
  have z6 := andNot_pow pd n hplt (by omega)
  obtain ⟨pd2, hpd2⟩ : ∃ pd2, pd &&& (4294967295 - 2 ^ n) = pd2 := ⟨_, rfl⟩
  have HP2 := hide hpd2
  rw [hpd2] at z6
  clear hpd2 e3
  go_wp2_with fail
  refine wp_region_held_drew (S := (fun U => Only [g] w6 U)) (by kernel_rfl) ((Only.refl [g] w6).drew) (fun hHeld => ?_)
  refine wpAnyH_take (i := 0) (oi := ⟨some 60, _, _, _, _, _⟩) (v := ?vnext_lastd1) rfl (by kernel_rfl) (by kernel_rfl) (by kernel_rfl) (fun _ _ _ h => h) (Or.inl ⟨by rfl, ?hynext_lastd1⟩) (by assumption) ?restnext_lastd1
  case hynext_lastd1 => (intro V hSw; (try dsimp only at hSw); go_simp; first | done | (with_reducible rfl))
  try simp only [Act.put, List.setIfInBounds_toArray, List.set_cons_zero, List.set_cons_succ]
  refine wpAnyH_take (i := 1) (oi := ⟨some 61, _, _, _, _, _⟩) (v := ?vnext_lastd2) rfl (by kernel_rfl) (by kernel_rfl) (by kernel_rfl) (fun _ _ _ h => h) (Or.inl ⟨by rfl, ?hynext_lastd2⟩) (by assumption) ?restnext_lastd2
  case hynext_lastd2 => (intro V hSw; (try dsimp only at hSw); go_simp; first | done | (with_reducible rfl))
  try simp only [Act.put, List.setIfInBounds_toArray, List.set_cons_zero, List.set_cons_succ]
  refine wpAnyH_take (i := 2) (oi := ⟨some 62, _, _, _, _, _⟩) (v := ?vnext_lastd3) rfl (by kernel_rfl) (by kernel_rfl) (by kernel_rfl) (fun _ _ _ h => h) (Or.inl ⟨by rfl, ?hynext_lastd3⟩) (by assumption) ?restnext_lastd3
  case hynext_lastd3 => (intro V hSw; (try dsimp only at hSw); go_simp; first | done | (with_reducible rfl))
  try simp only [Act.put, List.setIfInBounds_toArray, List.set_cons_zero, List.set_cons_succ]
  refine wpAnyH_take (i := 3) (oi := ⟨some 63, _, _, _, _, _⟩) (v := ?vnext_lastd4) rfl (by kernel_rfl) (by kernel_rfl) (by kernel_rfl) (fun _ _ _ h => h) (Or.inl ⟨by rfl, ?hynext_lastd4⟩) (by assumption) ?restnext_lastd4
  case hynext_lastd4 => (intro V hSw; (try dsimp only at hSw); go_simp; first | done | (with_reducible rfl))
  try simp only [Act.put, List.setIfInBounds_toArray, List.set_cons_zero, List.set_cons_succ]
  refine wpAnyH_take (i := 4) (oi := ⟨some 64, _, _, _, _, _⟩) (v := ?vnext_lastd5) rfl (by kernel_rfl) (by kernel_rfl) (by kernel_rfl) (fun _ _ _ h => h) (Or.inl ⟨by rfl, ?hynext_lastd5⟩) (by assumption) ?restnext_lastd5
  case hynext_lastd5 => (intro V hSw; (try dsimp only at hSw); go_simp; first | done | (with_reducible rfl))
  try simp only [Act.put, List.setIfInBounds_toArray, List.set_cons_zero, List.set_cons_succ]
  refine wpAnyH_take (i := 6) (oi := ⟨some 66, _, _, _, _, _⟩) (v := ?vnext_lastd6) rfl (by kernel_rfl) (by kernel_rfl) (by kernel_rfl) (fun _ _ _ h => h) (Or.inl ⟨by rfl, ?hynext_lastd6⟩) (by assumption) ?restnext_lastd6
  case hynext_lastd6 => (intro V hSw; (try dsimp only at hSw); go_simp; first | done | (with_reducible rfl))
  try simp only [Act.put, List.setIfInBounds_toArray, List.set_cons_zero, List.set_cons_succ]
  refine wpAnyH_take (i := 7) (oi := ⟨some 67, _, _, _, _, _⟩) (v := ?vnext_lastd7) rfl (by kernel_rfl) (by kernel_rfl) (by kernel_rfl) (fun _ _ _ h => h) (Or.inl ⟨by rfl, ?hynext_lastd7⟩) (by assumption) ?restnext_lastd7
  case hynext_lastd7 => (intro V hSw; (try dsimp only at hSw); have z := XN.out V hSw; go_simp; first | done | (with_reducible rfl))
  try simp only [Act.put, List.setIfInBounds_toArray, List.set_cons_zero, List.set_cons_succ]
  refine wpAnyH_take (i := 8) (oi := ⟨some 68, _, _, _, _, _⟩) (v := ?vnext_lastd8) rfl (by kernel_rfl) (by kernel_rfl) (by kernel_rfl) (fun _ _ _ h => h) (Or.inl ⟨by rfl, ?hynext_lastd8⟩) (by assumption) ?restnext_lastd8
  case hynext_lastd8 => (intro V hSw; (try dsimp only at hSw); go_simp; first | done | (with_reducible rfl))
  try simp only [Act.put, List.setIfInBounds_toArray, List.set_cons_zero, List.set_cons_succ]
  refine wpAnyH_take (i := 10) (oi := ⟨some 70, _, _, _, _, _⟩) (v := ?vnext_lastd9) rfl (by kernel_rfl) (by kernel_rfl) (by kernel_rfl) (fun _ _ _ h => h) (Or.inl ⟨by rfl, ?hynext_lastd9⟩) (by assumption) ?restnext_lastd9
  case hynext_lastd9 => (intro V hSw; (try dsimp only at hSw); go_simp; first | done | (with_reducible rfl))
  try simp only [Act.put, List.setIfInBounds_toArray, List.set_cons_zero, List.set_cons_succ]
  refine wpAnyH_take (i := 11) (oi := ⟨some 71, _, _, _, _, _⟩) (v := ?vnext_lastd10) rfl (by kernel_rfl) (by kernel_rfl) (by kernel_rfl) (fun _ _ _ h => h) (Or.inl ⟨by rfl, ?hynext_lastd10⟩) (by assumption) ?restnext_lastd10
  case hynext_lastd10 => (intro V hSw; (try dsimp only at hSw); go_simp; first | done | (with_reducible rfl))
  try simp only [Act.put, List.setIfInBounds_toArray, List.set_cons_zero, List.set_cons_succ]
  refine wpAnyH_ready (rs := [5]) (by kernel_rfl) (by simp) ?_
  refine AllReadyH.cons (o := ⟨some 65, _, _, _, _, _⟩) rfl (fun K hK => ?_) (AllReadyH.nil)
  rw [if_pos (by rfl)]
  go_simp
  try dsimp only
  refine hK.out _ _ (hHeld) (fun hHeld => ?_)
  clear hK K
  try simp only [Act.put, List.setIfInBounds_toArray, List.set_cons_zero, List.set_cons_succ]
  refine wpAnyH_take (i := 9) (oi := ⟨some 69, _, _, _, _, _⟩) (v := ?vnext_lastd11) rfl (by kernel_rfl) (by kernel_rfl) (by kernel_rfl) (fun _ _ _ h => h) (Or.inl ⟨by rfl, ?hynext_lastd11⟩) (by assumption) ?restnext_lastd11
  case hynext_lastd11 => (intro V hSw; (try dsimp only at hSw); go_simp; first | done | (with_reducible rfl))
  try simp only [Act.put, List.setIfInBounds_toArray, List.set_cons_zero, List.set_cons_succ]
  refine wpAnyH_take (i := 12) (oi := ⟨some 72, _, _, _, _, _⟩) (v := ?vnext_lastd12) rfl (by kernel_rfl) (by kernel_rfl) (by kernel_rfl) (fun _ _ _ h => h) (Or.inl ⟨by rfl, ?hynext_lastd12⟩) (by assumption) ?restnext_lastd12
  case hynext_lastd12 => (intro V hSw; (try dsimp only at hSw); go_simp; first | done | (with_reducible rfl))
  try simp only [Act.put, List.setIfInBounds_toArray, List.set_cons_zero, List.set_cons_succ]
  refine wpAnyH_ready (rs := [13]) (by kernel_rfl) (by simp) ?_
  refine AllReadyH.cons (o := ⟨none, _, _, _, _, _⟩) rfl (fun K hK => ?_) (AllReadyH.nil)
  rw [if_pos (by rfl)]
  go_simp
  try dsimp only
  refine hK.out _ _ (((Only.refl [g] w6).setCell (p := ⟨g, 19 + t, none⟩) (.inl (by simp)) _).drew) (fun hHeld => ?_)
  clear hK K
  try simp only [Act.put, List.setIfInBounds_toArray, List.set_cons_zero, List.set_cons_succ]
  refine wpAnyH_done (by kernel_rfl) ?_ _
  have b7 := (b4.only o60 (by simpa using Ne.symm hne)).set_ (19 + t) (.int .u32 (pd2 : Int))
  have o67 : Only [g] w6 (w6.setCell ⟨g, 19 + t, none⟩ (.int .u32 (pd2 : Int))) := (Only.refl [g] w6).setCell (p := ⟨g, 19 + t, none⟩) (.inl (by simp)) _
  have M7 := M6.only o67 (by simpa using hne)
  have o7 : Only [g, mb] V (w6.setCell ⟨g, 19 + t, none⟩ (.int .u32 (pd2 : Int))) := (o4.trans o60 (by simp)).trans o67 (by simp)
  obtain ⟨W7, hW7⟩ : ∃ W7, w6.setCell ⟨g, 19 + t, none⟩ (.int .u32 (pd2 : Int)) = W7 := ⟨_, rfl⟩
  rw [hW7] at b7 M7 o7 ⊢
  clear hW7 m19 n19 z6 XN
  have bN7 := BN.out.only o7 (by simp; omega)
  have bX7 := BX.out.only o7 (by simp; omega)
  have x0 := (bN7.cell 0).trans (rfl : (#[Value.int .i64 (n : Int), .int .i64 v])[0]? = _)
  have x1 := (bN7.cell 1).trans (rfl : (#[Value.int .i64 (n : Int), .int .i64 v])[1]? = _)
  have y0 := (bX7.cell 0).trans (rfl : (#[Value.int .i64 0, .int .i64 0])[0]? = _)
  have y1 := (bX7.cell 1).trans (rfl : (#[Value.int .i64 0, .int .i64 0])[1]? = _)
  have y2 := bX7.frozen 0
  have y3 := bX7.frozen 1
  have SF : SG W7 g mb T S (takeL L t n) M Bs := H0.out.again o7 (fun b hb => by have := hnb b hb; simp [this]) ⟨_, b7, by have := HC.out.used (takeL L t n) (k := t) (p := pd2) (by omega) (by rw [take_pend_last H0.out.inv.n2 (by omega) (by rw [HQU.out]; exact hq), if_pos rfl, HPD.out, HP2.out]) (fun i hi => by rw [take_pend_last H0.out.inv.n2 (by omega) (by rw [HQU.out]; exact hq), if_neg (Ne.symm hi)]); rw [HU.out] at this; exact this⟩ ⟨_, _, M7, HQ.out.take o7 (fun b hb => by have := hnb b hb; simp [this]) (t := t) (n := n) (fun x hx => (delV_other _ _ x hx).trans (updV_other _ _ _ x hx)) (fun _ _ => delV_same ..) (fun _ => delV_same ..) (fun _ hc => absurd (by rw [HQU.out]; exact hq) hc) (by omega) (by omega)⟩ (H0.out.inv.erase t n)
  have SF := hide SF
  have M7 := hide M7
  have B7 := hide b7
  have O7 := hide o7
  clear M7 b7 o7 bN7 bX7 M4 b4 o4 K35 KEY
  go_wp2_with fail
  exact bodyPost_ret (v := .tuple #[.agg #[.int .i64 (n : Int), .int .i64 v], .bool true]) (by simp [results, Try.results11, go_sem, x0, x1, y0, y1, y2, y3]) rfl ⟨rfl, (SF.out.only (((Only.refl [rb] W7).setCell (p := ⟨rb, 0, none⟩) (.inl (by simp)) _).setCell (p := ⟨rb, 1, none⟩) (.inl (by simp)) _) (by simp; omega) (by simp; omega) (fun b hb => by have := hbl0.out b hb; simp; omega)).only0 (Only.refl [] _).drew,
    ((HV.out.mono (by simp)).trans O7.out (by simp)).trans ((((Only.refl [rb] W7).setCell (p := ⟨rb, 0, none⟩) (.inl (by simp)) _).setCell (p := ⟨rb, 1, none⟩) (.inl (by simp)) _).drew) (by intro x hx; simp at hx; subst hx; right; have := HRB.out; omega)⟩
end Go.Proofs.Ytnmlcijkggfhmaa
