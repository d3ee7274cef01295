/- Ready lists: the walk of do. Condition: the two lists lie. -/
import Derived.Test.YtlaeiknkabajkaaRd22
import Derived.Deep.RegionHeld3
namespace Go.Proofs.Ytlaeiknkabajkaa
open Go.RowKit Go.Shelf
set_option linter.unusedVariables false
set_option linter.all false
set_option maxRecDepth 20000

/-- The sequences behind a step. -/
def stepQ (q : Nat → List Nat) (k p t : Int) : Nat → List Nat := if k = 1 then putTQ q p t else if k = 2 then putHQ q p t else if k = 3 then remQ q t else q
theorem RL.facts {w : World} {g : Nat} {q : Nat → List Nat} {st : Int} (h : RL w g q st) : q 0 = [] ∧ (∀ p, (q p).length ≤ 16) ∧ (∀ p, (q p).Nodup) ∧ (∀ p t, t ∈ q p → 1 ≤ p ∧ p ≤ 31) := by
  obtain ⟨s, prio, bits, _, hR⟩ := h
  refine ⟨List.eq_nil_iff_forall_not_mem.2 (fun t ht => by have := hR.out 0 t ht; omega), fun p => nodup_lt 16 _ (hR.nd p) (hR.lt p), hR.nd, hR.out⟩
theorem RL.noRow {W : World} {g : Nat} {q : Nat → List Nat} {st : Int} (h : RL W g q st) : NoRow W [g] := by
  obtain ⟨s, prio, bits, ⟨cs, hb, _⟩, _⟩ := h
  exact NoRow.one hb (by decide)
theorem DQ.noRow {W : World} {d : Nat} {q : Nat → List Nat} (h : DQ W d q) : NoRow W [d] := by
  obtain ⟨cs, A, c, hb, _⟩ := h
  exact NoRow.one hb (by decide)
theorem RL.ne {W : World} {g d : Nat} {q r : Nat → List Nat} {st : Int} (h : RL W g q st) (k : DQ W d r) : g ≠ d := by
  obtain ⟨s, prio, bits, ⟨cs, hb, _⟩, _⟩ := h
  obtain ⟨cs', A, c, hb', _⟩ := k
  exact Blk.ne_ hb hb' (by decide)
/-- What a step leaves. -/
def DoE (w : World) (g d : Nat) (q : Nat → List Nat) (st : Int) (e : Ending) (w' : World) : Prop :=
  ∃ g' st', e = .returned (.tuple #[.pointer (some ⟨g', 0, none⟩), .pointer (some ⟨d, 0, none⟩), .bool true]) ∧ st ≤ st' ∧ st' ≤ st + 20 ∧ RL w' g' q st' ∧ DQ w' d q ∧ Only [g, d] w w' ∧ (g' = g ∨ w.heap.size ≤ g')
theorem do_results (a b c : Value) (tmps : Array Value) (W : World) (h : tmps.getD 6 undef = a) (h1 : tmps.getD 7 undef = b) (h2 : tmps.getD 8 undef = c) : (results Try.f7 tmps).run Try.prog W = .ok (.tuple #[a, b, c]) W := by
  subst h h1 h2
  simp [results, Try.results7, go_sem]

set_option maxHeartbeats 4000000 in
theorem do_tail (g d : Nat) (q : Nat → List Nat) (p t st : Int) (hst : 0 ≤ st ∧ st < 100000) (w : World) (hR : RL w g q st) (hD : DQ w d q) :
    Calls Try.prog 7 #[ptr g, ptr d, .agg #[.int .i64 1, .int .i64 p, .int .i64 t]] w (DoE w g d (putTQ q p t) st) := by
  have hst' := hst
  replace hst : 0 ≤ st ∧ st < 1000000 := by omega
  obtain ⟨h0, hl, hn, ho⟩ := hR.facts
  have hgd := hR.ne hD
  have hnr := hR.noRow
  have hnd := hD.noRow
  obtain ⟨X, hX⟩ : ∃ X, w.heap.size = X := ⟨_, rfl⟩
  have oX : Only [] w (w.alloc (.cells #[.int .i64 1, .int .i64 p, .int .i64 t] 33)) := (Only.refl [] w).alloc _
  have bX := Blk.new w 33 #[.int .i64 1, .int .i64 p, .int .i64 t]
  rw [hX] at bX
  have hRX := hR.only oX (by simp)
  have hDX := hD.only oX (NoRow.nil _) (by simp)
  have hnX := hRX.noRow
  have hgX : g < X := by obtain ⟨s, prio, bits, ⟨cs, hb, _⟩, _⟩ := hR; have := hb.lt; omega
  have hdX : d < X := by obtain ⟨cs, A, c, hb, _⟩ := hD; have := hb.lt; omega
  obtain ⟨W, hW⟩ : ∃ W, w.alloc (.cells #[.int .i64 1, .int .i64 p, .int .i64 t] 33) = W := ⟨_, rfl⟩
  have S0 := steps_spec g q st W (hW ▸ hRX)
  rw [hW] at oX bX hRX hDX hnX
  have A1 := fun n => tail_spec g q st hst p t (W.drewN n) hRX
  have B2 := fun n V (o : Only [g] (W.drewN n) V) => rput_spec d q p t false h0 hl V ((show DQ (W.drewN n) d q from hDX).only o hnX (by simp; exact Ne.symm hgd))
  have STE := fun V st' (h : RL V g (putTQ q p t) st') => steps_spec g _ st' V h
  have FIR := fun V st' (hs : 0 ≤ st' ∧ st' < 1000000) (h : RL V g (putTQ q p t) st') => first_spec g _ st' hs V h
  obtain ⟨cc, hcc⟩ : ∃ cc, putC q p t = cc := ⟨_, rfl⟩
  obtain ⟨q', hq'⟩ : ∃ q', putTQ q p t = q' := ⟨_, rfl⟩
  try simp only [if_true, if_false, Bool.false_eq_true] at B2
  simp only [hcc, hq'] at A1 B2 STE FIR
  rw [hq']
  clear hcc hq'
  have k0 : W.cell? ⟨X, 0, none⟩ = some (.int .i64 1) := (bX.cell 0).trans rfl
  have k1 : W.cell? ⟨X, 1, none⟩ = some (.int .i64 p) := (bX.cell 1).trans rfl
  have k2 : W.cell? ⟨X, 2, none⟩ = some (.int .i64 t) := (bX.cell 2).trans rfl
  have HK1 := hide k1
  have HK2 := hide k2
  have HRX := hide hRX
  have HDX := hide hDX
  have HNX := hide hnX
  have HND := hide (show NoRow W [d] from hDX.noRow)
  have HA1 := hide A1
  have HB2 := hide B2
  have HST := hide STE
  have HFI := hide FIR
  have S0 := hide S0
  have OX := hide oX
  clear A1 B2 STE FIR hR hD hRX hDX hnX hnr hnd h0 hl hn ho oX bX
  unfold ptr at S0 HA1 HB2 HST HFI ⊢
  go_enter Try.func7, Try.ntmps7
  go_wp2_with (first
    | (go_at_call 17; (with_reducible refine S0.out.mono ?_); rintro e w' ⟨rfl, hw⟩; obtain rfl := hw.symm; clear hw))
  go_region_held3 (fun V => V.cell? ⟨X, 1, none⟩ = some (.int .i64 p) ∧ V.cell? ⟨X, 2, none⟩ = some (.int .i64 t)) (first | go_keep | exact ⟨j1, j2⟩ | exact ⟨m1, m2⟩ | exact ⟨k1, k2⟩) (first
    | (go_at_call 18; refine (HA1.out _).mono ?_; rintro e w2 ⟨rfl, ⟨st2, s1, s2, R2⟩, o2⟩; have j1 := o2.keep (p := ⟨X, 1, none⟩) HK1.out (by simp; omega); have j2 := o2.keep (p := ⟨X, 2, none⟩) HK2.out (by simp; omega))
    | (go_at_call 19; refine (HB2.out _ _ o2).mono ?_; rintro e w3 ⟨rfl, D3, o3⟩; have m1 := o3.keep (p := ⟨X, 1, none⟩) j1 (by simp; omega); have m2 := o3.keep (p := ⟨X, 2, none⟩) j2 (by simp; omega)))
  have RB := R2.only o3 (by simp; exact hgd)
  have HRB := hide RB
  have z1 : IntKind.i64.wrap (st2 - st) = st2 - st := IntWalk.i64_in _ (by omega)
  have z2 : decide ((0 : Int) ≤ st2 - st) = true := decide_eq_true (by omega)
  have z3 : decide (st2 - st ≤ (8 : Int)) = true := decide_eq_true (by omega)
  have hr2 : 0 ≤ st2 ∧ st2 < 1000000 := by omega
  have HR2 := hide hr2
  have HS1 := hide s1
  have HS2 := hide s2
  have HD3 := hide D3
  have O3 := hide (((wide_only (S := [g, d]) (OX.out.drewN _)).trans o2 (fun k hk => .inl (by simp at hk; simp [hk]))).trans o3 (fun k hk => .inl (by simp at hk; simp [hk])))
  clear RB hr2 s1 s2 R2 D3 k1 k2 j1 j2
  go_wp2_with (first
    | (go_at_call 17; refine (HST.out _ _ RC).mono ?_; rintro e w' ⟨rfl, hw⟩; obtain rfl := hw.symm; clear hw)
    | (go_at_call 17; refine (HST.out _ _ HRB.out).mono ?_; rintro e w' ⟨rfl, hw⟩; obtain rfl := hw.symm; clear hw)
    | (go_at_call 13; refine (HFI.out _ _ HR2.out HRB.out).mono ?_; rintro e w4 ⟨he4, ⟨st4, s3, s4, RC⟩, o4⟩; unfold firstE at he4; subst he4; have HS3 := hide s3; have HS4 := hide s4; have y1 : IntKind.i64.wrap (st4 - st2) = st4 - st2 := IntWalk.i64_in _ (by have := HR2.out; omega); have y2 : decide ((0 : Int) ≤ st4 - st2) = true := decide_eq_true (by omega); have y3 : decide (st4 - st2 ≤ (8 : Int)) = true := decide_eq_true (by omega); clear s3 s4)
    | (go_at_call 15; refine (num_any _ _).mono ?_; rintro e w' ⟨rfl, hw⟩; obtain rfl := hw.symm; clear hw))
  refine bodyPost_ret (v := .tuple #[.pointer (some ⟨g, 0, none⟩), .pointer (some ⟨d, 0, none⟩), .bool true]) (do_results _ _ _ _ _ rfl rfl rfl) rfl ?_
  have h1 := HS1.out
  have h2 := HS2.out
  have h3 := HS3.out
  have h4 := HS4.out
  exact ⟨g, st4, rfl, by omega, by omega, RC, HD3.out.only o4 (RL.noRow HRB.out) (by simp; exact Ne.symm hgd), O3.out.trans o4 (fun k hk => .inl (by simp at hk; simp [hk])), .inl rfl⟩

set_option maxHeartbeats 4000000 in
theorem do_head (g d : Nat) (q : Nat → List Nat) (p t st : Int) (hst : 0 ≤ st ∧ st < 100000) (w : World) (hR : RL w g q st) (hD : DQ w d q) :
    Calls Try.prog 7 #[ptr g, ptr d, .agg #[.int .i64 2, .int .i64 p, .int .i64 t]] w (DoE w g d (putHQ q p t) st) := by
  have hst' := hst
  replace hst : 0 ≤ st ∧ st < 1000000 := by omega
  obtain ⟨h0, hl, hn, ho⟩ := hR.facts
  have hgd := hR.ne hD
  have hnr := hR.noRow
  have hnd := hD.noRow
  obtain ⟨X, hX⟩ : ∃ X, w.heap.size = X := ⟨_, rfl⟩
  have oX : Only [] w (w.alloc (.cells #[.int .i64 2, .int .i64 p, .int .i64 t] 33)) := (Only.refl [] w).alloc _
  have bX := Blk.new w 33 #[.int .i64 2, .int .i64 p, .int .i64 t]
  rw [hX] at bX
  have hRX := hR.only oX (by simp)
  have hDX := hD.only oX (NoRow.nil _) (by simp)
  have hnX := hRX.noRow
  have hgX : g < X := by obtain ⟨s, prio, bits, ⟨cs, hb, _⟩, _⟩ := hR; have := hb.lt; omega
  have hdX : d < X := by obtain ⟨cs, A, c, hb, _⟩ := hD; have := hb.lt; omega
  obtain ⟨W, hW⟩ : ∃ W, w.alloc (.cells #[.int .i64 2, .int .i64 p, .int .i64 t] 33) = W := ⟨_, rfl⟩
  have S0 := steps_spec g q st W (hW ▸ hRX)
  rw [hW] at oX bX hRX hDX hnX
  have A1 := fun n => head_spec g q st hst p t (W.drewN n) hRX
  have B2 := fun n V (o : Only [g] (W.drewN n) V) => rput_spec d q p t true h0 hl V ((show DQ (W.drewN n) d q from hDX).only o hnX (by simp; exact Ne.symm hgd))
  have STE := fun V st' (h : RL V g (putHQ q p t) st') => steps_spec g _ st' V h
  have FIR := fun V st' (hs : 0 ≤ st' ∧ st' < 1000000) (h : RL V g (putHQ q p t) st') => first_spec g _ st' hs V h
  obtain ⟨cc, hcc⟩ : ∃ cc, putC q p t = cc := ⟨_, rfl⟩
  obtain ⟨q', hq'⟩ : ∃ q', putHQ q p t = q' := ⟨_, rfl⟩
  try simp only [if_true, if_false, Bool.false_eq_true] at B2
  simp only [hcc, hq'] at A1 B2 STE FIR
  rw [hq']
  clear hcc hq'
  have k0 : W.cell? ⟨X, 0, none⟩ = some (.int .i64 2) := (bX.cell 0).trans rfl
  have k1 : W.cell? ⟨X, 1, none⟩ = some (.int .i64 p) := (bX.cell 1).trans rfl
  have k2 : W.cell? ⟨X, 2, none⟩ = some (.int .i64 t) := (bX.cell 2).trans rfl
  have HK1 := hide k1
  have HK2 := hide k2
  have HRX := hide hRX
  have HDX := hide hDX
  have HNX := hide hnX
  have HND := hide (show NoRow W [d] from hDX.noRow)
  have HA1 := hide A1
  have HB2 := hide B2
  have HST := hide STE
  have HFI := hide FIR
  have S0 := hide S0
  have OX := hide oX
  clear A1 B2 STE FIR hR hD hRX hDX hnX hnr hnd h0 hl hn ho oX bX
  unfold ptr at S0 HA1 HB2 HST HFI ⊢
  go_enter Try.func7, Try.ntmps7
  go_wp2_with (first
    | (go_at_call 17; (with_reducible refine S0.out.mono ?_); rintro e w' ⟨rfl, hw⟩; obtain rfl := hw.symm; clear hw))
  go_region_held3 (fun V => V.cell? ⟨X, 1, none⟩ = some (.int .i64 p) ∧ V.cell? ⟨X, 2, none⟩ = some (.int .i64 t)) (first | go_keep | exact ⟨j1, j2⟩ | exact ⟨m1, m2⟩ | exact ⟨k1, k2⟩) (first
    | (go_at_call 20; refine (HA1.out _).mono ?_; rintro e w2 ⟨rfl, ⟨st2, s1, s2, R2⟩, o2⟩; have j1 := o2.keep (p := ⟨X, 1, none⟩) HK1.out (by simp; omega); have j2 := o2.keep (p := ⟨X, 2, none⟩) HK2.out (by simp; omega))
    | (go_at_call 19; refine (HB2.out _ _ o2).mono ?_; rintro e w3 ⟨rfl, D3, o3⟩; have m1 := o3.keep (p := ⟨X, 1, none⟩) j1 (by simp; omega); have m2 := o3.keep (p := ⟨X, 2, none⟩) j2 (by simp; omega)))
  have RB := R2.only o3 (by simp; exact hgd)
  have HRB := hide RB
  have z1 : IntKind.i64.wrap (st2 - st) = st2 - st := IntWalk.i64_in _ (by omega)
  have z2 : decide ((0 : Int) ≤ st2 - st) = true := decide_eq_true (by omega)
  have z3 : decide (st2 - st ≤ (8 : Int)) = true := decide_eq_true (by omega)
  have hr2 : 0 ≤ st2 ∧ st2 < 1000000 := by omega
  have HR2 := hide hr2
  have HS1 := hide s1
  have HS2 := hide s2
  have HD3 := hide D3
  have O3 := hide (((wide_only (S := [g, d]) (OX.out.drewN _)).trans o2 (fun k hk => .inl (by simp at hk; simp [hk]))).trans o3 (fun k hk => .inl (by simp at hk; simp [hk])))
  clear RB hr2 s1 s2 R2 D3 k1 k2 j1 j2
  go_wp2_with (first
    | (go_at_call 17; refine (HST.out _ _ RC).mono ?_; rintro e w' ⟨rfl, hw⟩; obtain rfl := hw.symm; clear hw)
    | (go_at_call 17; refine (HST.out _ _ HRB.out).mono ?_; rintro e w' ⟨rfl, hw⟩; obtain rfl := hw.symm; clear hw)
    | (go_at_call 13; refine (HFI.out _ _ HR2.out HRB.out).mono ?_; rintro e w4 ⟨he4, ⟨st4, s3, s4, RC⟩, o4⟩; unfold firstE at he4; subst he4; have HS3 := hide s3; have HS4 := hide s4; have y1 : IntKind.i64.wrap (st4 - st2) = st4 - st2 := IntWalk.i64_in _ (by have := HR2.out; omega); have y2 : decide ((0 : Int) ≤ st4 - st2) = true := decide_eq_true (by omega); have y3 : decide (st4 - st2 ≤ (8 : Int)) = true := decide_eq_true (by omega); clear s3 s4)
    | (go_at_call 15; refine (num_any _ _).mono ?_; rintro e w' ⟨rfl, hw⟩; obtain rfl := hw.symm; clear hw))
  refine bodyPost_ret (v := .tuple #[.pointer (some ⟨g, 0, none⟩), .pointer (some ⟨d, 0, none⟩), .bool true]) (do_results _ _ _ _ _ rfl rfl rfl) rfl ?_
  have h1 := HS1.out
  have h2 := HS2.out
  have h3 := HS3.out
  have h4 := HS4.out
  exact ⟨g, st4, rfl, by omega, by omega, RC, HD3.out.only o4 (RL.noRow HRB.out) (by simp; exact Ne.symm hgd), O3.out.trans o4 (fun k hk => .inl (by simp at hk; simp [hk])), .inl rfl⟩

set_option maxHeartbeats 4000000 in
theorem do_rem (g d : Nat) (q : Nat → List Nat) (p t st : Int) (hst : 0 ≤ st ∧ st < 100000) (w : World) (hR : RL w g q st) (hD : DQ w d q) :
    Calls Try.prog 7 #[ptr g, ptr d, .agg #[.int .i64 3, .int .i64 p, .int .i64 t]] w (DoE w g d (remQ q t) st) := by
  have hst' := hst
  replace hst : 0 ≤ st ∧ st < 1000000 := by omega
  obtain ⟨h0, hl, hn, ho⟩ := hR.facts
  have hgd := hR.ne hD
  have hnr := hR.noRow
  have hnd := hD.noRow
  obtain ⟨X, hX⟩ : ∃ X, w.heap.size = X := ⟨_, rfl⟩
  have oX : Only [] w (w.alloc (.cells #[.int .i64 3, .int .i64 p, .int .i64 t] 33)) := (Only.refl [] w).alloc _
  have bX := Blk.new w 33 #[.int .i64 3, .int .i64 p, .int .i64 t]
  rw [hX] at bX
  have hRX := hR.only oX (by simp)
  have hDX := hD.only oX (NoRow.nil _) (by simp)
  have hnX := hRX.noRow
  have hgX : g < X := by obtain ⟨s, prio, bits, ⟨cs, hb, _⟩, _⟩ := hR; have := hb.lt; omega
  have hdX : d < X := by obtain ⟨cs, A, c, hb, _⟩ := hD; have := hb.lt; omega
  obtain ⟨W, hW⟩ : ∃ W, w.alloc (.cells #[.int .i64 3, .int .i64 p, .int .i64 t] 33) = W := ⟨_, rfl⟩
  have S0 := steps_spec g q st W (hW ▸ hRX)
  rw [hW] at oX bX hRX hDX hnX
  have A1 := fun n => remove_spec g q st hst t (W.drewN n) hRX
  have B2 := fun n V (o : Only [g] (W.drewN n) V) => rrem_spec d q t h0 hl hn ho V ((show DQ (W.drewN n) d q from hDX).only o hnX (by simp; exact Ne.symm hgd))
  have STE := fun V st' (h : RL V g (remQ q t) st') => steps_spec g _ st' V h
  have FIR := fun V st' (hs : 0 ≤ st' ∧ st' < 1000000) (h : RL V g (remQ q t) st') => first_spec g _ st' hs V h
  obtain ⟨cc, hcc⟩ : ∃ cc, remC q t = cc := ⟨_, rfl⟩
  obtain ⟨q', hq'⟩ : ∃ q', remQ q t = q' := ⟨_, rfl⟩
  try simp only [if_true, if_false, Bool.false_eq_true] at B2
  simp only [hcc, hq'] at A1 B2 STE FIR
  rw [hq']
  clear hcc hq'
  have k0 : W.cell? ⟨X, 0, none⟩ = some (.int .i64 3) := (bX.cell 0).trans rfl
  have k1 : W.cell? ⟨X, 1, none⟩ = some (.int .i64 p) := (bX.cell 1).trans rfl
  have k2 : W.cell? ⟨X, 2, none⟩ = some (.int .i64 t) := (bX.cell 2).trans rfl
  have HK1 := hide k1
  have HK2 := hide k2
  have HRX := hide hRX
  have HDX := hide hDX
  have HNX := hide hnX
  have HND := hide (show NoRow W [d] from hDX.noRow)
  have HA1 := hide A1
  have HB2 := hide B2
  have HST := hide STE
  have HFI := hide FIR
  have S0 := hide S0
  have OX := hide oX
  clear A1 B2 STE FIR hR hD hRX hDX hnX hnr hnd h0 hl hn ho oX bX
  unfold ptr at S0 HA1 HB2 HST HFI ⊢
  go_enter Try.func7, Try.ntmps7
  go_wp2_with (first
    | (go_at_call 17; (with_reducible refine S0.out.mono ?_); rintro e w' ⟨rfl, hw⟩; obtain rfl := hw.symm; clear hw))
  go_region_held3 (fun V => V.cell? ⟨X, 1, none⟩ = some (.int .i64 p) ∧ V.cell? ⟨X, 2, none⟩ = some (.int .i64 t)) (first | go_keep | exact ⟨j1, j2⟩ | exact ⟨m1, m2⟩ | exact ⟨k1, k2⟩) (first
    | (go_at_call 16; refine (HA1.out _).mono ?_; rintro e w2 ⟨rfl, ⟨st2, s1, s2, R2⟩, o2⟩; have j1 := o2.keep (p := ⟨X, 1, none⟩) HK1.out (by simp; omega); have j2 := o2.keep (p := ⟨X, 2, none⟩) HK2.out (by simp; omega))
    | (go_at_call 21; refine (HB2.out _ _ o2).mono ?_; rintro e w3 ⟨rfl, D3, o3⟩; have m1 := o3.keep (p := ⟨X, 1, none⟩) j1 (by simp; omega); have m2 := o3.keep (p := ⟨X, 2, none⟩) j2 (by simp; omega)))
  have RB := R2.only o3 (by simp; exact hgd)
  have HRB := hide RB
  have z1 : IntKind.i64.wrap (st2 - st) = st2 - st := IntWalk.i64_in _ (by omega)
  have z2 : decide ((0 : Int) ≤ st2 - st) = true := decide_eq_true (by omega)
  have z3 : decide (st2 - st ≤ (8 : Int)) = true := decide_eq_true (by omega)
  have hr2 : 0 ≤ st2 ∧ st2 < 1000000 := by omega
  have HR2 := hide hr2
  have HS1 := hide s1
  have HS2 := hide s2
  have HD3 := hide D3
  have O3 := hide (((wide_only (S := [g, d]) (OX.out.drewN _)).trans o2 (fun k hk => .inl (by simp at hk; simp [hk]))).trans o3 (fun k hk => .inl (by simp at hk; simp [hk])))
  clear RB hr2 s1 s2 R2 D3 k1 k2 j1 j2
  go_wp2_with (first
    | (go_at_call 17; refine (HST.out _ _ RC).mono ?_; rintro e w' ⟨rfl, hw⟩; obtain rfl := hw.symm; clear hw)
    | (go_at_call 17; refine (HST.out _ _ HRB.out).mono ?_; rintro e w' ⟨rfl, hw⟩; obtain rfl := hw.symm; clear hw)
    | (go_at_call 13; refine (HFI.out _ _ HR2.out HRB.out).mono ?_; rintro e w4 ⟨he4, ⟨st4, s3, s4, RC⟩, o4⟩; unfold firstE at he4; subst he4; have HS3 := hide s3; have HS4 := hide s4; have y1 : IntKind.i64.wrap (st4 - st2) = st4 - st2 := IntWalk.i64_in _ (by have := HR2.out; omega); have y2 : decide ((0 : Int) ≤ st4 - st2) = true := decide_eq_true (by omega); have y3 : decide (st4 - st2 ≤ (8 : Int)) = true := decide_eq_true (by omega); clear s3 s4)
    | (go_at_call 15; refine (num_any _ _).mono ?_; rintro e w' ⟨rfl, hw⟩; obtain rfl := hw.symm; clear hw))
  refine bodyPost_ret (v := .tuple #[.pointer (some ⟨g, 0, none⟩), .pointer (some ⟨d, 0, none⟩), .bool true]) (do_results _ _ _ _ _ rfl rfl rfl) rfl ?_
  have h1 := HS1.out
  have h2 := HS2.out
  have h3 := HS3.out
  have h4 := HS4.out
  exact ⟨g, st4, rfl, by omega, by omega, RC, HD3.out.only o4 (RL.noRow HRB.out) (by simp; exact Ne.symm hgd), O3.out.trans o4 (fun k hk => .inl (by simp at hk; simp [hk])), .inl rfl⟩

set_option maxHeartbeats 4000000 in
theorem do_else (g d : Nat) (q : Nat → List Nat) (k p t st : Int) (c1 : k ≠ 1) (c2 : k ≠ 2) (c3 : k ≠ 3) (c4 : k ≠ 4) (hst : 0 ≤ st ∧ st < 100000) (w : World) (hR : RL w g q st) (hD : DQ w d q) :
    Calls Try.prog 7 #[ptr g, ptr d, .agg #[.int .i64 k, .int .i64 p, .int .i64 t]] w (DoE w g d q st) := by
  have hst' := hst
  obtain ⟨X, hX⟩ : ∃ X, w.heap.size = X := ⟨_, rfl⟩
  have oX : Only [] w (w.alloc (.cells #[.int .i64 k, .int .i64 p, .int .i64 t] 33)) := (Only.refl [] w).alloc _
  have bX := Blk.new w 33 #[.int .i64 k, .int .i64 p, .int .i64 t]
  rw [hX] at bX
  have hgd := hR.ne hD
  have hRX := hR.only oX (by simp)
  have hDX := hD.only oX (NoRow.nil _) (by simp)
  have hgX : g < X := by obtain ⟨s, prio, bits, ⟨cs, hb, _⟩, _⟩ := hR; have := hb.lt; omega
  obtain ⟨W, hW⟩ : ∃ W, w.alloc (.cells #[.int .i64 k, .int .i64 p, .int .i64 t] 33) = W := ⟨_, rfl⟩
  have hWX : W.heap.size = X + 1 := by rw [← hW, ← hX]; simp
  have S0 := steps_spec g q st W (hW ▸ hRX)
  rw [hW] at oX bX hRX hDX
  have k0 : W.cell? ⟨X, 0, none⟩ = some (.int .i64 k) := (bX.cell 0).trans rfl
  have HRX := hide hRX
  have HDX := hide hDX
  have OX := hide oX
  have S0 := hide S0
  have FIR := hide (first_spec g q st (by omega) W hRX)
  have HST := hide (fun V st' (h : RL V g q st') => steps_spec g _ st' V h)
  have e1 : (k == 1) = false := by simp [c1]
  have e2 : (k == 2) = false := by simp [c2]
  have e3 : (k == 3) = false := by simp [c3]
  have e4 : (k == 4) = false := by simp [c4]
  clear c1 c2 c3 c4 hR hD hRX hDX oX bX
  unfold ptr at S0 FIR HST ⊢
  go_enter Try.func7, Try.ntmps7
  go_wp2_with (first
    | (go_at_call 17; refine (HST.out _ _ RC).mono ?_; rintro e w' ⟨rfl, hw⟩; obtain rfl := hw.symm; clear hw)
    | (go_at_call 17; refine S0.out.mono ?_; rintro e w' ⟨rfl, hw⟩; obtain rfl := hw.symm; clear hw)
    | (go_at_call 13; refine FIR.out.mono ?_; rintro e w4 ⟨he4, ⟨st4, s3, s4, RC⟩, o4⟩; unfold firstE at he4; subst he4; have HS3 := hide s3; have HS4 := hide s4; have y1 : IntKind.i64.wrap (st4 - st) = st4 - st := IntWalk.i64_in _ (by omega); have y2 : decide ((0 : Int) ≤ st4 - st) = true := decide_eq_true (by omega); have y3 : decide (st4 - st ≤ (8 : Int)) = true := decide_eq_true (by omega); clear s3 s4)
    | (go_at_call 15; refine (num_any _ _).mono ?_; rintro e w' ⟨rfl, hw⟩; obtain rfl := hw.symm; clear hw))
  refine bodyPost_ret (v := .tuple #[.pointer (some ⟨g, 0, none⟩), .pointer (some ⟨d, 0, none⟩), .bool true]) (do_results _ _ _ _ _ rfl rfl rfl) rfl ?_
  have h3 := HS3.out
  have h4 := HS4.out
  exact ⟨g, st4, rfl, by omega, by omega, RC, HDX.out.only o4 (RL.noRow HRX.out) (by simp; exact Ne.symm hgd), (wide_only (S := [g, d]) OX.out).trans o4 (fun k hk => .inl (by simp at hk; simp [hk])), .inl rfl⟩
set_option maxHeartbeats 4000000 in
theorem do_copy (g d : Nat) (q : Nat → List Nat) (p t st : Int) (hst : 0 ≤ st ∧ st < 100000) (w : World) (hR : RL w g q st) (hD : DQ w d q) :
    Calls Try.prog 7 #[ptr g, ptr d, .agg #[.int .i64 4, .int .i64 p, .int .i64 t]] w (DoE w g d q st) := by
  have hst' := hst
  obtain ⟨X, hX⟩ : ∃ X, w.heap.size = X := ⟨_, rfl⟩
  have oX : Only [] w (w.alloc (.cells #[.int .i64 4, .int .i64 p, .int .i64 t] 33)) := (Only.refl [] w).alloc _
  have bX := Blk.new w 33 #[.int .i64 4, .int .i64 p, .int .i64 t]
  rw [hX] at bX
  have hgd := hR.ne hD
  have hRX := hR.only oX (by simp)
  have hDX := hD.only oX (NoRow.nil _) (by simp)
  have hgX : g < X := by obtain ⟨s, prio, bits, ⟨cs, hb, _⟩, _⟩ := hR; have := hb.lt; omega
  obtain ⟨W, hW⟩ : ∃ W, w.alloc (.cells #[.int .i64 4, .int .i64 p, .int .i64 t] 33) = W := ⟨_, rfl⟩
  have hWX : W.heap.size = X + 1 := by rw [← hW, ← hX]; simp
  have S0 := steps_spec g q st W (hW ▸ hRX)
  rw [hW] at oX bX hRX hDX
  have k0 : W.cell? ⟨X, 0, none⟩ = some (.int .i64 4) := (bX.cell 0).trans rfl
  have HRX := hide hRX
  have HDX := hide hDX
  have OX := hide oX
  have S0 := hide S0
  have CP := copy_spec g q st W hRX
  rw [hWX] at CP
  have CP := hide CP
  have SM := fun V st' (h1 : RL V (X + 1) q st') (h2 : RL V g q st) => same_spec (X + 1) g q q st' st V h1 h2
  rw [sameQ_yes rfl] at SM
  have SM := hide SM
  have TL := hide (fun V (h : RL V g q st) => tail_spec g q st (by omega) 1 15 V h)
  have RM := hide (fun V st' q' (hs : 0 ≤ st' ∧ st' < 1000000) (h : RL V g q' st') => remove_spec g q' st' hs 3 V h)
  clear hR hD hRX hDX oX bX
  unfold ptr at S0 CP SM TL RM ⊢
  go_enter Try.func7, Try.ntmps7
  go_wp2_with (first
    | (go_at_call 17; refine S0.out.mono ?_; rintro e w' ⟨rfl, hw⟩; obtain rfl := hw.symm; clear hw)
    | (go_at_call 22; refine CP.out.mono ?_; rintro e w1 ⟨rfl, R1, o1⟩)
    | (go_at_call 8; refine (SM.out _ _ R1 (HRX.out.only o1 (by simp))).mono ?_; rintro e w2 ⟨rfl, o2⟩)
    | (go_at_call 18; refine (TL.out _ ((HRX.out.only o1 (by simp)).only o2 (by simp))).mono ?_; rintro e w3 ⟨rfl, ⟨st3, s3, s4, R3⟩, o3⟩)
    | (go_at_call 16; refine (RM.out _ _ _ (by omega) R3).mono ?_; rintro e w4 ⟨rfl, ⟨st4, s5, s6, R4⟩, o4⟩))
  refine bodyPost_ret (v := .tuple #[.pointer (some ⟨X + 1, 0, none⟩), .pointer (some ⟨d, 0, none⟩), .bool true]) (do_results _ _ _ _ _ rfl rfl rfl) rfl ?_
  have hx : X + 1 ∉ [g] := by simp; omega
  have n2 := ((HRX.out.only o1 (by simp)).only o2 (by simp)).noRow
  exact ⟨X + 1, st, rfl, by omega, by omega, ((R1.only o2 (by simp)).only o3 hx).only o4 hx, (((HDX.out.only o1 (NoRow.nil _) (by simp)).only o2 (NoRow.nil _) (by simp)).only o3 n2 (by simp; exact Ne.symm hgd)).only o4 R3.noRow (by simp; exact Ne.symm hgd),
    ((((wide_only (S := [g, d]) OX.out).trans0 o1).trans0 o2).trans o3 (fun k hk => .inl (by simp at hk; simp [hk]))).trans o4 (fun k hk => .inl (by simp at hk; simp [hk])), .inr (by omega)⟩
theorem do_any (g d : Nat) (q : Nat → List Nat) (k p t st : Int) (hst : 0 ≤ st ∧ st < 100000) (w : World) (hR : RL w g q st) (hD : DQ w d q) :
    Calls Try.prog 7 #[ptr g, ptr d, .agg #[.int .i64 k, .int .i64 p, .int .i64 t]] w (DoE w g d (stepQ q k p t) st) := by
  unfold stepQ
  by_cases c1 : k = 1
  · subst c1; exact do_tail g d q p t st hst w hR hD
  by_cases c2 : k = 2
  · subst c2; exact do_head g d q p t st hst w hR hD
  by_cases c3 : k = 3
  · subst c3; exact do_rem g d q p t st hst w hR hD
  rw [if_neg c1, if_neg c2, if_neg c3]
  by_cases c4 : k = 4
  · subst c4; exact do_copy g d q p t st hst w hR hD
  · exact do_else g d q k p t st c1 c2 c3 c4 hst w hR hD

end Go.Proofs.Ytlaeiknkabajkaa
