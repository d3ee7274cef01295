/- Code: the walk of Parse. Condition: Env; a text of at most 2000000 bytes. -/
import Derived.Test.YteblhklclcjonaaGreatDoorCd7
import Derived.Test.YteblhklclcjonaaGreatDoorCd8
namespace Go.Proofs.YteblhklclcjonaaGreatDoor
open Go.RowKit
set_option linter.unusedVariables false
set_option linter.all false
set_option maxRecDepth 20000

theorem run_store_func {P : Program} {w : World} {a : Addr} {m : Mode} (f : Fn) (A B : Array Value) : (store a (.func f A B) m).run P w = stored P w a (.func f A B) m := run_store P w a _ m rfl
attribute [local go_sem] run_store_func
def z5 : Array Value := #[.int .i64 0, .int .i64 0, .int .i64 0, .int .i64 0, .int .i64 0]
/-- What Parse answers. -/
def parV (r : Option Ins) : Value := match r with
  | some i => .tuple #[.agg (insV i), .int .i64 0]
  | none => .tuple #[.agg z5, .int .i64 4]
theorem Blk.row {w : World} {g : Nat} {t : TypeId} {cs cs' : Array Value} (h : Blk w g t cs) : Blk (w.setRow g cs') g t cs' := setRow_heap w g cs cs' t (0, 0) h
theorem wpList_store_row {P : Program} {ops : Array Oper} {rest : List Oper} {op : Oper} {a : Act} {w : World} {Q : Exit → Act → World → Prop} (hgd : op.guard = none) (ty : TypeId) (x y : Operand) (ho : op.op = .store ty x y) (g : Nat)
    (c c' : Array Value) (hx : a.eval x = .pointer (some ⟨g, 0, none⟩)) (hy : a.eval y = .agg c') (hb : Blk w g ty c)
    (hi : (P.info? ty).map (·.size) = some c'.size) (hs : c.size = c'.size) (h1 : c'.all (·.oneCell') = true)
    (h : wpList P ops Q rest (a.put op.dst undef) (w.setRow g c')) : wpList P ops Q (op :: rest) a w :=
  wpList_plain hgd fun _ hK => by
    have hr : (Instr.storeAt ty (.pointer (some ⟨g, 0, none⟩)) (.agg c')).run P w = .ok () (w.setRow g c') := by
      simp only [Instr.storeAt, Instr.sureAddr, Sem.run_bind, Sem.run_pure, Result.andThen]
      exact run_storeVar_row w g ty ty c c' hb hi hs h1
    unfold Oper.wp execOp
    simp only [ho, hx, hy, Sem.run_bind, hr, Sem.run_pure, Result.andThen_ok]
    exact hK _ _ h
theorem results_cell2 {fn : Func} {t u : Tmp} {ty : TypeId} (h : fn.results = #[.cell t ty, .tmp u]) {tmps : Array Value} {P : Program} {w : World} {g : Addr} {v x : Value} (h0 : tmps.getD t undef = .pointer (some g)) (hx : tmps.getD u undef = x) (hl : (loadVar ty g).run P w = .ok v w) :
    (results fn tmps).run P w = .ok (.tuple #[v, x]) w := by
  have h1 : tmps[t]?.getD undef = .pointer (some g) := by rw [← Array.getD_eq_getD_getElem?]; exact h0
  have h2 : tmps[u]?.getD undef = x := by rw [← Array.getD_eq_getD_getElem?]; exact hx
  simp [results, h, h1, h2, asAddr, hl]
theorem info24 : (Tryz.prog.info? 99).map (·.size) = some 5 := by kernel_rfl
theorem load24 {w : World} {g : Nat} {a b c d e : Value} (h : Blk w g 99 #[a, b, c, d, e]) : (loadVar 99 ⟨g, 0, none⟩).run Tryz.prog w = .ok (.agg #[a, b, c, d, e]) w := by
  have x0 := h.cell 0
  have x1 := h.cell 1
  have x2 := h.cell 2
  have x3 := h.cell 3
  have x4 := h.cell 4
  simp [go_sem, x0, x1, x2, x3, x4]
theorem parP_bad {s : List UInt8} (h : ¬ (0 ≤ opAt (cutAt 32 s).1)) : parP s = none := by
  unfold parP
  simp only
  rw [if_neg (fun hc => h (by have := hc.1; unfold opOk at this; simp at this; exact this.1))]
theorem parP_good {s : List UInt8} {k : Nat} (h : opAt (cutAt 32 s).1 = k) : parP s = if mayI (insP k (cutAt 32 s).2.1) 256 = true ∧ lineB (insP k (cutAt 32 s).2.1) = s then some (insP k (cutAt 32 s).2.1) else none := by
  unfold parP
  have hr := opAt_range (cutAt 32 s).1
  have ho : opOk (opAt (cutAt 32 s).1) = true := by unfold opOk; simp; omega
  simp only [h, Int.toNat_natCast] at ho ⊢
  simp only [ho, true_and]
theorem regP_len (n : Bool) (r : List UInt8) : (regP n r).2.length ≤ r.length := by
  unfold regP
  split
  · exact (cut_le 32 r).2
  · exact Nat.le_refl _
set_option maxHeartbeats 16000000 in
theorem parse_walk (s : List UInt8) (hs : s.length ≤ 2000000) (w : World) (he : Env w) (hw4 : 4 ≤ w.heap.size) : Calls Tryz.prog 78 #[.string (bs s)] w fun e w' => e = .returned (parV (parP s)) ∧ Only [] w w' := by
  obtain ⟨X, hX⟩ : ∃ X, w.heap.size = X := ⟨_, rfl⟩
  obtain ⟨W, hW⟩ : ∃ W, ((w.alloc (.cells z5 99)).alloc (.cells #[.string (bs s)] 9)).alloc (.cells #[.func (.func 99) #[] #[.pointer (some ⟨X + 1, 0, none⟩)]] 90) = W := ⟨_, rfl⟩
  have oW : Only [] w W := by rw [← hW]; exact (((Only.refl [] w).alloc _).alloc _).alloc _
  have bX : Blk W X 99 z5 := by rw [← hW, ← hX]; exact ((Blk.new w 99 z5).alloc _).alloc _
  have bR : Blk W (X + 1) 9 #[.string (bs s)] := by
    have := (Blk.new (w.alloc (.cells z5 99)) 9 #[.string (bs s)]).alloc (.cells #[.func (.func 99) #[] #[.pointer (some ⟨X + 1, 0, none⟩)]] 90)
    rw [World.size_alloc, hX, hW] at this
    exact this
  have bF : Blk W (X + 1 + 1) 90 #[.func (.func 99) #[] #[.pointer (some ⟨X + 1, 0, none⟩)]] := by
    have := Blk.new ((w.alloc (.cells z5 99)).alloc (.cells #[.string (bs s)] 9)) 90 #[.func (.func 99) #[] #[.pointer (some ⟨X + 1, 0, none⟩)]]
    rw [World.size_alloc, World.size_alloc, hX, hW] at this
    exact this
  have hWX : W.heap.size = X + 3 := by rw [← hW, ← hX]; simp
  have NX := hide (next_any (X + 1) s W (he.only oW) (by omega) bR)
  obtain ⟨wd, hwd⟩ : ∃ wd, (cutAt 32 s).1 = wd := ⟨_, rfl⟩
  obtain ⟨r0, hr0⟩ : ∃ r0, (cutAt 32 s).2.1 = r0 := ⟨_, rfl⟩
  rw [hwd, hr0] at NX
  have OW := hide oW
  have HE := hide he
  have BF := hide bF
  have BX := hide bX
  have f0 := bF.cell 0
  have HX := hide hX
  have hX4 : 4 ≤ X := by omega
  have hr0l : r0.length ≤ 2000000 := by rw [← hr0]; have := (cut_le 32 s).2; omega
  unfold z5 at hW
  have HW := hide hW
  clear oW bX bR bF he hX hW
  have hrg := opAt_range wd
  by_cases hop : 0 ≤ opAt wd
  · obtain ⟨k, hk⟩ : ∃ k : Nat, opAt wd = k := ⟨(opAt wd).toNat, by omega⟩
    have hk9 : k < 9 := by omega
    have OF := fun W => of_ok k hk9 W
    have PG := parP_good (s := s) (k := k) (by rw [hwd]; exact hk)
    rw [hr0] at PG
    unfold opV at OF
    unfold insP at PG
    simp only at PG
    obtain ⟨nm, hnm⟩ : ∃ nm, ByteArray.mk (nmB k).toArray = nm := ⟨_, rfl⟩
    obtain ⟨dd, hdd⟩ : ∃ d, (shp k).d = d := ⟨_, rfl⟩
    obtain ⟨da, hda⟩ : ∃ d, (shp k).a = d := ⟨_, rfl⟩
    obtain ⟨db, hdb⟩ : ∃ d, (shp k).b = d := ⟨_, rfl⟩
    obtain ⟨mm, hmm⟩ : ∃ m, (shp k).imm = m := ⟨_, rfl⟩
    rw [hnm, hdd, hda, hdb, hmm] at OF
    rw [hdd, hda, hdb, hmm] at PG
    have hl1 := regP_len dd r0
    obtain ⟨v1, hv1⟩ : ∃ v, (regP dd r0).1 = v := ⟨_, rfl⟩
    obtain ⟨r1, hr1⟩ : ∃ r, (regP dd r0).2 = r := ⟨_, rfl⟩
    rw [hv1, hr1] at PG
    rw [hr1] at hl1
    have hl2 := regP_len da r1
    obtain ⟨v2, hv2⟩ : ∃ v, (regP da r1).1 = v := ⟨_, rfl⟩
    obtain ⟨r2, hr2⟩ : ∃ r, (regP da r1).2 = r := ⟨_, rfl⟩
    rw [hv2, hr2] at PG
    rw [hr2] at hl2
    have hl3 := regP_len db r2
    obtain ⟨v3, hv3⟩ : ∃ v, (regP db r2).1 = v := ⟨_, rfl⟩
    obtain ⟨r3, hr3⟩ : ∃ r, (regP db r2).2 = r := ⟨_, rfl⟩
    rw [hv3, hr3] at PG
    rw [hr3] at hl3
    have HV1 := hide hv1
    have HV2 := hide hv2
    have HV3 := hide hv3
    have HR1 := hide hr1
    have HR2 := hide hr2
    have HR3 := hide hr3
    have OF := hide OF
    have PG := hide PG
    clear hnm hdd hda hdb hmm hv1 hv2 hv3 hr1 hr2 hr3 hwd hr0
    have IA := hide (fun (K B : Nat) A c W hb hr => index_any wd K B A c W hb hr)
    rw [hk] at IA
    clear hrg hop hk
    go_enter Tryz.func78, Tryz.ntmps78
    go_wp2_with (first
      | (go_at_call 99; rw [HX.out, HW.out]; (with_reducible refine NX.out.mono ?_); rintro e w1 ⟨rfl, b1, o1⟩; have BR1 := hide b1; have BX1 := hide (BX.out.only o1 (by simp)); have BF1 := hide (BF.out.only o1 (by simp)); have ES1 := hide (show X + 3 ≤ w1.heap.size by have := o1.size; omega); have EN1 := hide ((HE.out.only OW.out).far o1 (by simp; omega)); have O1 := hide (OW.out.trans o1 (fun x hx => .inr (by have := HX.out; simp at hx; omega))); clear b1 o1 NX BX BF OW HW)
      | (go_at_call 102; (with_reducible refine (collect_any _).mono ?_); rintro e w2 ⟨⟨A, c, rfl, q2⟩, o2⟩; have QS := hide q2; have BK := hide ((Blk.new w1 9 #[.string (bs wd)]).only o2 (by simp)); have oo := (((Only.refl [] w1).alloc (.cells #[.string (bs wd)] 9)).trans0 o2); have O2 := hide oo; clear q2 o2 oo)
      | (go_at_call 94; (with_reducible refine (IA.out _ _ _ _ _ (BK.out.cell 0) QS.out).mono ?_); rintro e w3 ⟨rfl, o3⟩; have O3 := hide (O2.out.trans0 o3); clear o3 QS BK O2)
      | (go_at_call 96; (with_reducible refine (OF.out _).mono ?_); rintro e w4 ⟨rfl, o4⟩; have O4 := hide (O3.out.trans0 o4); have oo := (O3.out.trans0 o4).alloc (.cells #[.string nm, .bool dd, .bool da, .bool db, .int .i64 (mm : Nat)] 152); have BX5 := hide (BX1.out.only oo (by simp)); have BF5 := hide (BF1.out.only oo (by simp)); have BR5 := hide (BR1.out.only oo (by simp)); have BO5 := hide (Blk.new w4 152 #[.string nm, .bool dd, .bool da, .bool db, .int .i64 (mm : Nat)]); have ES5 := hide (show X + 3 ≤ w4.heap.size by have := (O3.out.trans0 o4).size; have := ES1.out; omega); have EN5 := hide (EN1.out.only oo); have O5 := hide (O1.out.trans0 oo); clear o4 oo BX1 BF1 BR1 O1 O3 EN1 O4))
    obtain ⟨O, hO⟩ : ∃ O, w4.heap.size = O := ⟨_, rfl⟩
    obtain ⟨w5, hw5⟩ : ∃ w5, w4.alloc (.cells #[.string nm, .bool dd, .bool da, .bool db, .int .i64 (mm : Nat)] 152) = w5 := ⟨_, rfl⟩
    rw [hw5, hO]
    rw [hw5] at BX5 BF5 BR5 BO5 EN5 O5
    rw [hO] at BO5 ES5
    clear hw5 hO
    have ES := ES5.out
    have HN5 := hide (show X + 3 ≤ w5.heap.size by have := BO5.out.lt; omega)
    have CO := hide (fun V (o : Only [X + 1] w5 V) => show V.cell? ⟨O, 1, none⟩ = some (.bool dd) ∧ V.cell? ⟨O, 2, none⟩ = some (.bool da) ∧ V.cell? ⟨O, 3, none⟩ = some (.bool db) from ⟨(BO5.out.only o (by simp; omega)).cell 1, (BO5.out.only o (by simp; omega)).cell 2, (BO5.out.only o (by simp; omega)).cell 3⟩)
    have HB0 := hide (show Blk w5.drew (X + 1) 9 #[.string (bs r0)] from BR5.out.drew)
    clear BR5
    refine wp_region_held_drew (S := (fun V => Only [X + 1] w5 V)) (by kernel_rfl) ((Only.refl _ w5).drew) (fun hHeld => ?_)
    revert hHeld HB0
    generalize w5.drew = u0
    intro HB0 hHeld
    refine wpAnyH_take (i := 0) (oi := ⟨some 30, _, _, _, _, _⟩) (v := ?vg1) rfl (by kernel_rfl) (by kernel_rfl) (by kernel_rfl) (fun _ _ _ h => h) (Or.inl ⟨by rfl, ?hyg1⟩) (by assumption) ?restg1
    case hyg1 => (intro V hSw; (try dsimp only at hSw); go_simp; first | done | (with_reducible rfl))
    try simp only [Act.put, List.setIfInBounds_toArray, List.set_cons_zero, List.set_cons_succ]
    refine wpAnyH_take (i := 1) (oi := ⟨some 31, _, _, _, _, _⟩) (v := ?vg2) rfl (by kernel_rfl) (by kernel_rfl) (by kernel_rfl) (fun _ _ _ h => h) (Or.inl ⟨by rfl, ?hyg2⟩) (by assumption) ?restg2
    case hyg2 => (intro V hSw; (try dsimp only at hSw); go_simp; first | done | (with_reducible rfl))
    try simp only [Act.put, List.setIfInBounds_toArray, List.set_cons_zero, List.set_cons_succ]
    refine wpAnyH_take (i := 2) (oi := ⟨some 32, _, _, _, _, _⟩) (v := ?vg3) rfl (by kernel_rfl) (by kernel_rfl) (by kernel_rfl) (fun _ _ _ h => h) (Or.inl ⟨by rfl, ?hyg3⟩) (by assumption) ?restg3
    case hyg3 => (intro V hSw; (try dsimp only at hSw); go_simp; first | done | (with_reducible rfl))
    try simp only [Act.put, List.setIfInBounds_toArray, List.set_cons_zero, List.set_cons_succ]
    refine wpAnyH_take (i := 3) (oi := ⟨some 33, _, _, _, _, _⟩) (v := ?vg4) rfl (by kernel_rfl) (by kernel_rfl) (by kernel_rfl) (fun _ _ _ h => h) (Or.inl ⟨by rfl, ?hyg4⟩) (by assumption) ?restg4
    case hyg4 => (intro V hSw; (try dsimp only at hSw); obtain ⟨z1, z2, z3⟩ := CO.out V hSw; go_simp; first | done | (with_reducible rfl))
    try simp only [Act.put, List.setIfInBounds_toArray, List.set_cons_zero, List.set_cons_succ]
    refine wpAnyH_take (i := 5) (oi := ⟨some 35, _, _, _, _, _⟩) (v := ?vg5) rfl (by kernel_rfl) (by kernel_rfl) (by kernel_rfl) (fun _ _ _ h => h) (Or.inl ⟨by rfl, ?hyg5⟩) (by assumption) ?restg5
    case hyg5 => (intro V hSw; (try dsimp only at hSw); go_simp; first | done | (with_reducible rfl))
    try simp only [Act.put, List.setIfInBounds_toArray, List.set_cons_zero, List.set_cons_succ]
    refine wpAnyH_take (i := 6) (oi := ⟨some 36, _, _, _, _, _⟩) (v := ?vg6) rfl (by kernel_rfl) (by kernel_rfl) (by kernel_rfl) (fun _ _ _ h => h) (Or.inl ⟨by rfl, ?hyg6⟩) (by assumption) ?restg6
    case hyg6 => (intro V hSw; (try dsimp only at hSw); go_simp; first | done | (with_reducible rfl))
    try simp only [Act.put, List.setIfInBounds_toArray, List.set_cons_zero, List.set_cons_succ]
    refine wpAnyH_take (i := 7) (oi := ⟨some 37, _, _, _, _, _⟩) (v := ?vg7) rfl (by kernel_rfl) (by kernel_rfl) (by kernel_rfl) (fun _ _ _ h => h) (Or.inl ⟨by rfl, ?hyg7⟩) (by assumption) ?restg7
    case hyg7 => (intro V hSw; (try dsimp only at hSw); obtain ⟨z1, z2, z3⟩ := CO.out V hSw; go_simp; first | done | (with_reducible rfl))
    try simp only [Act.put, List.setIfInBounds_toArray, List.set_cons_zero, List.set_cons_succ]
    refine wpAnyH_take (i := 9) (oi := ⟨some 39, _, _, _, _, _⟩) (v := ?vg8) rfl (by kernel_rfl) (by kernel_rfl) (by kernel_rfl) (fun _ _ _ h => h) (Or.inl ⟨by rfl, ?hyg8⟩) (by assumption) ?restg8
    case hyg8 => (intro V hSw; (try dsimp only at hSw); go_simp; first | done | (with_reducible rfl))
    try simp only [Act.put, List.setIfInBounds_toArray, List.set_cons_zero, List.set_cons_succ]
    refine wpAnyH_take (i := 10) (oi := ⟨some 40, _, _, _, _, _⟩) (v := ?vg9) rfl (by kernel_rfl) (by kernel_rfl) (by kernel_rfl) (fun _ _ _ h => h) (Or.inl ⟨by rfl, ?hyg9⟩) (by assumption) ?restg9
    case hyg9 => (intro V hSw; (try dsimp only at hSw); go_simp; first | done | (with_reducible rfl))
    try simp only [Act.put, List.setIfInBounds_toArray, List.set_cons_zero, List.set_cons_succ]
    refine wpAnyH_take (i := 11) (oi := ⟨some 41, _, _, _, _, _⟩) (v := ?vg10) rfl (by kernel_rfl) (by kernel_rfl) (by kernel_rfl) (fun _ _ _ h => h) (Or.inl ⟨by rfl, ?hyg10⟩) (by assumption) ?restg10
    case hyg10 => (intro V hSw; (try dsimp only at hSw); obtain ⟨z1, z2, z3⟩ := CO.out V hSw; go_simp; first | done | (with_reducible rfl))
    try simp only [Act.put, List.setIfInBounds_toArray, List.set_cons_zero, List.set_cons_succ]
    refine wpAnyH_ready (rs := [4, 14]) (by kernel_rfl) (by simp) ?_
    refine AllReadyH.cons (o := ⟨some 34, _, _, _, _, _⟩) rfl (fun K hK => ?_) (AllReadyH.cons (o := ⟨some 11, _, _, _, _, _⟩) rfl (fun K hK => ?_) (AllReadyH.nil))
    · skip
      rw [if_pos (by rfl)]
      have RG := reg_next dd (X + 1) (X + 1 + 1) r0 u0 (EN5.out.far (show Only [X + 1] w5 u0 from hHeld) (by simp; omega)) (by omega) (by omega) HB0.out (BF5.out.only (show Only [X + 1] w5 u0 from hHeld) (by simp)); rw [HV1.out, HR1.out] at RG; have RG := hide RG
      go_simp
      (with_reducible refine RG.out.mono ?_); rintro e u4 ⟨rfl, b', o'⟩; have HB1 := hide b'; have OS := hide (show Only [X + 1] w5 u4 from (show Only [X + 1] w5 u0 from hHeld).trans o' (fun x hx => .inl hx)); clear b' o' RG
      try dsimp only
      refine hK.out _ _ (OS.out) (fun hHeld => ?_)
      clear hK K
      try simp only [Act.put, List.setIfInBounds_toArray, List.set_cons_zero, List.set_cons_succ]
      refine wpAnyH_ready (rs := [8, 14]) (by kernel_rfl) (by simp) ?_
      refine AllReadyH.cons (o := ⟨some 38, _, _, _, _, _⟩) rfl (fun K hK => ?_) (AllReadyH.cons (o := ⟨some 11, _, _, _, _, _⟩) rfl (fun K hK => ?_) (AllReadyH.nil))
      · skip
        rw [if_pos (by rfl)]
        have RG := reg_next da (X + 1) (X + 1 + 1) r1 u4 (EN5.out.far (show Only [X + 1] w5 u4 from hHeld) (by simp; omega)) (by omega) (by omega) HB1.out (BF5.out.only (show Only [X + 1] w5 u4 from hHeld) (by simp)); rw [HV2.out, HR2.out] at RG; have RG := hide RG
        go_simp
        (with_reducible refine RG.out.mono ?_); rintro e u4_8 ⟨rfl, b', o'⟩; have HB2 := hide b'; have OS := hide (show Only [X + 1] w5 u4_8 from (show Only [X + 1] w5 u4 from hHeld).trans o' (fun x hx => .inl hx)); clear b' o' RG
        try dsimp only
        refine hK.out _ _ (OS.out) (fun hHeld => ?_)
        clear hK K
        try simp only [Act.put, List.setIfInBounds_toArray, List.set_cons_zero, List.set_cons_succ]
        refine wpAnyH_ready (rs := [12, 14]) (by kernel_rfl) (by simp) ?_
        refine AllReadyH.cons (o := ⟨some 42, _, _, _, _, _⟩) rfl (fun K hK => ?_) (AllReadyH.cons (o := ⟨some 11, _, _, _, _, _⟩) rfl (fun K hK => ?_) (AllReadyH.nil))
        · skip
          rw [if_pos (by rfl)]
          have RG := reg_next db (X + 1) (X + 1 + 1) r2 u4_8 (EN5.out.far (show Only [X + 1] w5 u4_8 from hHeld) (by simp; omega)) (by omega) (by omega) HB2.out (BF5.out.only (show Only [X + 1] w5 u4_8 from hHeld) (by simp)); rw [HV3.out, HR3.out] at RG; have RG := hide RG
          go_simp
          (with_reducible refine RG.out.mono ?_); rintro e u4_8_12 ⟨rfl, b', o'⟩; have HB3 := hide b'; have OS := hide (show Only [X + 1] w5 u4_8_12 from (show Only [X + 1] w5 u4_8 from hHeld).trans o' (fun x hx => .inl hx)); clear b' o' RG
          try dsimp only
          refine hK.out _ _ (OS.out) (fun hHeld => ?_)
          clear hK K
          try simp only [Act.put, List.setIfInBounds_toArray, List.set_cons_zero, List.set_cons_succ]
          refine wpAnyH_take (i := 13) (oi := ⟨some 43, _, _, _, _, _⟩) (v := ?vg11) rfl (by kernel_rfl) (by kernel_rfl) (by kernel_rfl) (fun _ _ _ h => h) (Or.inl ⟨by rfl, ?hyg11⟩) (by assumption) ?restg11
          case hyg11 => (intro V hSw; (try dsimp only at hSw); go_simp; first | done | (with_reducible rfl))
          try simp only [Act.put, List.setIfInBounds_toArray, List.set_cons_zero, List.set_cons_succ]
          refine wpAnyH_ready (rs := [14]) (by kernel_rfl) (by simp) ?_
          refine AllReadyH.cons (o := ⟨some 11, _, _, _, _, _⟩) rfl (fun K hK => ?_) (AllReadyH.nil)
          rw [if_pos (by rfl)]
          go_simp
          obtain ⟨I, hI⟩ : ∃ I, (u4_8_12).heap.size = I := ⟨_, rfl⟩; obtain ⟨u4_8_12_14, hu⟩ : ∃ u, (u4_8_12).alloc (.cells #[.int .i64 0, .int .i64 0, .int .i64 0, .int .i64 0, .int .i64 0] 99) = u := ⟨_, rfl⟩; have BI4 := hide (show Blk u4_8_12_14 I 99 #[.int .i64 0, .int .i64 0, .int .i64 0, .int .i64 0, .int .i64 0] from by rw [← hu, ← hI]; exact Blk.new _ 99 _); have HB4 := hide (show Blk u4_8_12_14 (X + 1) 9 #[.string (bs r3)] from by rw [← hu]; exact HB3.out.alloc _); have OS := hide (show Only [X + 1] w5 u4_8_12_14 from by rw [← hu]; exact (show Only [X + 1] w5 u4_8_12 from hHeld).alloc _); have HI := hide (show w5.heap.size ≤ I from by rw [← hI]; exact (show Only [X + 1] w5 u4_8_12 from hHeld).size); rw [hI, hu]; clear hI hu
          try dsimp only
          refine hK.out _ _ (OS.out) (fun hHeld => ?_)
          clear hK K
          try simp only [Act.put, List.setIfInBounds_toArray, List.set_cons_zero, List.set_cons_succ]
          refine wpAnyH_ready (rs := [15]) (by kernel_rfl) (by simp) ?_
          refine AllReadyH.cons (o := ⟨none, _, _, _, _, _⟩) rfl (fun K hK => ?_) (AllReadyH.nil)
          rw [if_pos (by rfl)]
          have x0 : (u4_8_12_14).cell? ⟨I, 0, none⟩ = some (.int .i64 0) := BI4.out.cell 0; have y0 := BI4.out.frozen 0; have x1 : (u4_8_12_14).cell? ⟨I, 1, none⟩ = some (.int .i64 0) := BI4.out.cell 1; have y1 := BI4.out.frozen 1; have x2 : (u4_8_12_14).cell? ⟨I, 2, none⟩ = some (.int .i64 0) := BI4.out.cell 2; have y2 := BI4.out.frozen 2; have x3 : (u4_8_12_14).cell? ⟨I, 3, none⟩ = some (.int .i64 0) := BI4.out.cell 3; have y3 := BI4.out.frozen 3; have x4 : (u4_8_12_14).cell? ⟨I, 4, none⟩ = some (.int .i64 0) := BI4.out.cell 4; have y4 := BI4.out.frozen 4
          go_simp
          try dsimp only
          refine hK.out _ _ (((((((show Only [X + 1] w5 u4_8_12_14 from hHeld)).setCell (p := ⟨I, 0, none⟩) (.inr HI.out) (.int .i64 (k : Int))).setCell (p := ⟨I, 1, none⟩) (.inr HI.out) (.int .i64 v1)).setCell (p := ⟨I, 2, none⟩) (.inr HI.out) (.int .i64 v2)).setCell (p := ⟨I, 3, none⟩) (.inr HI.out) (.int .i64 v3)).setCell (p := ⟨I, 4, none⟩) (.inr HI.out) (.int .i64 0)) (fun hHeld => ?_)
          clear hK K
          try simp only [Act.put, List.setIfInBounds_toArray, List.set_cons_zero, List.set_cons_succ]
          refine wpAnyH_done (by kernel_rfl) ?_ _
          clear x0 y0 x1 y1 x2 y2 x3 y3 x4 y4
          have BJ := (((((BI4.out).set_ 0 (.int .i64 (k : Int))).set_ 1 (.int .i64 v1)).set_ 2 (.int .i64 v2)).set_ 3 (.int .i64 v3)).set_ 4 (.int .i64 0)
          have BJ := hide (show Blk ((((((u4_8_12_14).setCell ⟨I, 0, none⟩ (.int .i64 (k : Int))).setCell ⟨I, 1, none⟩ (.int .i64 v1)).setCell ⟨I, 2, none⟩ (.int .i64 v2)).setCell ⟨I, 3, none⟩ (.int .i64 v3)).setCell ⟨I, 4, none⟩ (.int .i64 0)) I 99 #[.int .i64 (k : Int), .int .i64 v1, .int .i64 v2, .int .i64 v3, .int .i64 0] from by simpa using BJ)
          have BR := hide (show Blk ((((((u4_8_12_14).setCell ⟨I, 0, none⟩ (.int .i64 (k : Int))).setCell ⟨I, 1, none⟩ (.int .i64 v1)).setCell ⟨I, 2, none⟩ (.int .i64 v2)).setCell ⟨I, 3, none⟩ (.int .i64 v3)).setCell ⟨I, 4, none⟩ (.int .i64 0)) (X + 1) 9 #[.string (bs r3)] from (((((HB4.out).far (p := ⟨I, 0, none⟩) (by have := HI.out; have := HN5.out; simp; omega) _).far (p := ⟨I, 1, none⟩) (by have := HI.out; have := HN5.out; simp; omega) _).far (p := ⟨I, 2, none⟩) (by have := HI.out; have := HN5.out; simp; omega) _).far (p := ⟨I, 3, none⟩) (by have := HI.out; have := HN5.out; simp; omega) _).far (p := ⟨I, 4, none⟩) (by have := HI.out; have := HN5.out; simp; omega) _)
          have OS := hide (show Only [X + 1] w5 ((((((u4_8_12_14).setCell ⟨I, 0, none⟩ (.int .i64 (k : Int))).setCell ⟨I, 1, none⟩ (.int .i64 v1)).setCell ⟨I, 2, none⟩ (.int .i64 v2)).setCell ⟨I, 3, none⟩ (.int .i64 v3)).setCell ⟨I, 4, none⟩ (.int .i64 0)) from hHeld)
          generalize (((((u4_8_12_14).setCell ⟨I, 0, none⟩ (.int .i64 (k : Int))).setCell ⟨I, 1, none⟩ (.int .i64 v1)).setCell ⟨I, 2, none⟩ (.int .i64 v2)).setCell ⟨I, 3, none⟩ (.int .i64 v3)).setCell ⟨I, 4, none⟩ (.int .i64 0) = u9 at BJ BR OS ⊢
          clear hHeld CO HB0 HB1 HB2 HB3 HB4 BI4
          have EN9 := hide (EN5.out.far OS.out (by simp; omega))
          have BX9 := hide (BX5.out.only OS.out (by simp))
          have BO9 := BO5.out.only OS.out (by simp; omega)
          have BF9 := BF5.out.only OS.out (by simp)
          have o4 := BO9.cell 4
          have fF := BF9.cell 0
          have O9 := hide (O5.out.trans OS.out (fun x hx => .inr (by have := HX.out; simp at hx; omega)))
          have HIX := hide (show X + 3 ≤ I by have := HI.out; have := HN5.out; omega)
          have x0 := BJ.out.cell 0
          have x1 := BJ.out.cell 1
          have x2 := BJ.out.cell 2
          have x3 := BJ.out.cell 3
          have x4 := BJ.out.cell 4
          clear BO9 BF9 OS BX5 BF5 BO5 EN5 O5
          by_cases hm0 : mm = 0
          · have dm : ((mm : Int) != 0) = false := by rw [hm0]; rfl
            obtain ⟨iv, hiv⟩ : ∃ iv : Int, 0 = iv := ⟨_, rfl⟩
            have PG2 := PG.out
            rw [hm0, show immP 0 r3 = 0 from rfl, hiv] at PG2
            have PG2 := hide PG2
            rw [hiv] at x4 BJ
            have HBi := hide (show -9223372036854775808 ≤ iv ∧ iv ≤ 9223372036854775807 by omega)
            have BA := BJ
            have BY := BX9
            have EA := EN9
            have OA := O9
            have HM0 := hide hm0
            have HIV := hide hiv
            clear hm0 hiv PG BR BJ BX9 EN9 O9
            go_wp2_with fail
            clear x0 x1 x2 x3 x4 o4 fF
            generalize u9 = ua at *
            have LN : Calls Tryz.prog 70 #[.agg #[.int .i64 (k : Int), .int .i64 v1, .int .i64 v2, .int .i64 v3, .int .i64 iv]] ua fun e w' => e = .returned (.tuple #[.string (if mayI ⟨k, v1, v2, v3, iv⟩ 256 then bs (lineB ⟨k, v1, v2, v3, iv⟩) else bs []), .int .i64 (if mayI ⟨k, v1, v2, v3, iv⟩ 256 then 0 else 2)]) ∧ Only [] ua w' := line_any ⟨k, v1, v2, v3, iv⟩ ua EA.out HBi.out.1 HBi.out.2
            clear EA
            cases hmay : mayI ⟨k, v1, v2, v3, iv⟩ 256 with
            | true =>
              simp only [hmay, if_true] at LN
              by_cases hln : lineB ⟨k, v1, v2, v3, iv⟩ = s
              · have hcmp : ((bs (lineB ⟨k, v1, v2, v3, iv⟩)).toList == (bs s).toList) = true := by rw [bs_eq]; simpa using hln
                have PGF := hide (show parP s = some ⟨k, v1, v2, v3, iv⟩ by rw [PG2.out, if_pos ⟨hmay, hln⟩])
                obtain ⟨lb, hlb⟩ : ∃ lb, bs (lineB ⟨k, v1, v2, v3, iv⟩) = lb := ⟨_, rfl⟩
                rw [hlb] at LN hcmp
                clear hmay hln hlb PG2
                refine LN.mono ?_
                rintro e ux ⟨rfl, ox⟩
                have BZ := hide (BY.out.only ox (by simp))
                have BI := BA.out.only ox (by simp)
                have OZ := hide (OA.out.trans0 ox)
                have x0 : ux.cell? ⟨X, 0, none⟩ = some (.int .i64 0) := BZ.out.cell 0
                have y0 := BZ.out.frozen 0
                have j0 := BI.cell 0
                have x1 : ux.cell? ⟨X, 1, none⟩ = some (.int .i64 0) := BZ.out.cell 1
                have y1 := BZ.out.frozen 1
                have j1 := BI.cell 1
                have x2 : ux.cell? ⟨X, 2, none⟩ = some (.int .i64 0) := BZ.out.cell 2
                have y2 := BZ.out.frozen 2
                have j2 := BI.cell 2
                have x3 : ux.cell? ⟨X, 3, none⟩ = some (.int .i64 0) := BZ.out.cell 3
                have y3 := BZ.out.frozen 3
                have j3 := BI.cell 3
                have x4 : ux.cell? ⟨X, 4, none⟩ = some (.int .i64 0) := BZ.out.cell 4
                have y4 := BZ.out.frozen 4
                have j4 := BI.cell 4
                clear LN ox BI
                go_wp2_with fail
                rw [PGF.out]
                have BFF := (((((BZ.out).set_ 0 (.int .i64 (k : Int))).set_ 1 (.int .i64 v1)).set_ 2 (.int .i64 v2)).set_ 3 (.int .i64 v3)).set_ 4 (.int .i64 iv)
                refine bodyPost_ret (v := .tuple #[.agg (insV ⟨k, v1, v2, v3, iv⟩), .int .i64 0]) (results_cell2 Tryz.results78 rfl rfl (load24 (a := .int .i64 (k : Int)) (b := .int .i64 v1) (c := .int .i64 v2) (d := .int .i64 v3) (e := .int .i64 iv) (by simpa [z5] using BFF))) rfl ⟨rfl, ?_⟩
                exact (((((((OZ.out.mono (T := [X]) (by simp))).setCell (p := ⟨X, 0, none⟩) (.inl (by simp)) _).setCell (p := ⟨X, 1, none⟩) (.inl (by simp)) _).setCell (p := ⟨X, 2, none⟩) (.inl (by simp)) _).setCell (p := ⟨X, 3, none⟩) (.inl (by simp)) _).setCell (p := ⟨X, 4, none⟩) (.inl (by simp)) _).mono (fun x hx => .inr (by have := HX.out; simp at hx; omega))
              · have hcmp : ((bs (lineB ⟨k, v1, v2, v3, iv⟩)).toList == (bs s).toList) = false := by rw [bs_eq]; simpa using hln
                have PGF := hide (show parP s = none by rw [PG2.out, if_neg (fun h => hln h.2)])
                obtain ⟨lb, hlb⟩ : ∃ lb, bs (lineB ⟨k, v1, v2, v3, iv⟩) = lb := ⟨_, rfl⟩
                rw [hlb] at LN hcmp
                clear hmay hln hlb PG2
                refine LN.mono ?_
                rintro e ux ⟨rfl, ox⟩
                have BZ := hide (BY.out.only ox (by simp))
                have BI := BA.out.only ox (by simp)
                have OZ := hide (OA.out.trans0 ox)
                have x0 : ux.cell? ⟨X, 0, none⟩ = some (.int .i64 0) := BZ.out.cell 0
                have y0 := BZ.out.frozen 0
                have j0 := BI.cell 0
                have x1 : ux.cell? ⟨X, 1, none⟩ = some (.int .i64 0) := BZ.out.cell 1
                have y1 := BZ.out.frozen 1
                have j1 := BI.cell 1
                have x2 : ux.cell? ⟨X, 2, none⟩ = some (.int .i64 0) := BZ.out.cell 2
                have y2 := BZ.out.frozen 2
                have j2 := BI.cell 2
                have x3 : ux.cell? ⟨X, 3, none⟩ = some (.int .i64 0) := BZ.out.cell 3
                have y3 := BZ.out.frozen 3
                have j3 := BI.cell 3
                have x4 : ux.cell? ⟨X, 4, none⟩ = some (.int .i64 0) := BZ.out.cell 4
                have y4 := BZ.out.frozen 4
                have j4 := BI.cell 4
                clear LN ox BI
                go_wp2_with fail
                rw [PGF.out]
                have BFF := (((((BZ.out).set_ 0 (.int .i64 0)).set_ 1 (.int .i64 0)).set_ 2 (.int .i64 0)).set_ 3 (.int .i64 0)).set_ 4 (.int .i64 0)
                refine bodyPost_ret (v := .tuple #[.agg z5, .int .i64 4]) (results_cell2 Tryz.results78 rfl rfl (load24 (a := .int .i64 0) (b := .int .i64 0) (c := .int .i64 0) (d := .int .i64 0) (e := .int .i64 0) (by simpa [z5] using BFF))) rfl ⟨rfl, ?_⟩
                exact (((((((OZ.out.mono (T := [X]) (by simp))).setCell (p := ⟨X, 0, none⟩) (.inl (by simp)) _).setCell (p := ⟨X, 1, none⟩) (.inl (by simp)) _).setCell (p := ⟨X, 2, none⟩) (.inl (by simp)) _).setCell (p := ⟨X, 3, none⟩) (.inl (by simp)) _).setCell (p := ⟨X, 4, none⟩) (.inl (by simp)) _).mono (fun x hx => .inr (by have := HX.out; simp at hx; omega))
            | false =>
              simp only [hmay, Bool.false_eq_true, if_false] at LN
              have PGF := hide (show parP s = none by rw [PG2.out, if_neg (fun h => by rw [hmay] at h; exact absurd h.1 (by decide))])
              clear hmay PG2
              refine LN.mono ?_
              rintro e ux ⟨rfl, ox⟩
              have BZ := hide (BY.out.only ox (by simp))
              have BI := BA.out.only ox (by simp)
              have OZ := hide (OA.out.trans0 ox)
              have x0 : ux.cell? ⟨X, 0, none⟩ = some (.int .i64 0) := BZ.out.cell 0
              have y0 := BZ.out.frozen 0
              have j0 := BI.cell 0
              have x1 : ux.cell? ⟨X, 1, none⟩ = some (.int .i64 0) := BZ.out.cell 1
              have y1 := BZ.out.frozen 1
              have j1 := BI.cell 1
              have x2 : ux.cell? ⟨X, 2, none⟩ = some (.int .i64 0) := BZ.out.cell 2
              have y2 := BZ.out.frozen 2
              have j2 := BI.cell 2
              have x3 : ux.cell? ⟨X, 3, none⟩ = some (.int .i64 0) := BZ.out.cell 3
              have y3 := BZ.out.frozen 3
              have j3 := BI.cell 3
              have x4 : ux.cell? ⟨X, 4, none⟩ = some (.int .i64 0) := BZ.out.cell 4
              have y4 := BZ.out.frozen 4
              have j4 := BI.cell 4
              clear LN ox BI
              go_wp2_with fail
              rw [PGF.out]
              have BFF := (((((BZ.out).set_ 0 (.int .i64 0)).set_ 1 (.int .i64 0)).set_ 2 (.int .i64 0)).set_ 3 (.int .i64 0)).set_ 4 (.int .i64 0)
              refine bodyPost_ret (v := .tuple #[.agg z5, .int .i64 4]) (results_cell2 Tryz.results78 rfl rfl (load24 (a := .int .i64 0) (b := .int .i64 0) (c := .int .i64 0) (d := .int .i64 0) (e := .int .i64 0) (by simpa [z5] using BFF))) rfl ⟨rfl, ?_⟩
              exact (((((((OZ.out.mono (T := [X]) (by simp))).setCell (p := ⟨X, 0, none⟩) (.inl (by simp)) _).setCell (p := ⟨X, 1, none⟩) (.inl (by simp)) _).setCell (p := ⟨X, 2, none⟩) (.inl (by simp)) _).setCell (p := ⟨X, 3, none⟩) (.inl (by simp)) _).setCell (p := ⟨X, 4, none⟩) (.inl (by simp)) _).mono (fun x hx => .inr (by have := HX.out; simp at hx; omega))
          · have dm : ((mm : Int) != 0) = true := by simp [hm0]
            obtain ⟨iv, hiv⟩ : ∃ iv : Int, parseV (cutAt 32 r3).1 = iv := ⟨_, rfl⟩
            have PG2 := PG.out
            rw [show immP mm r3 = parseV (cutAt 32 r3).1 from if_pos hm0, hiv] at PG2
            have PG2 := hide PG2
            have HBi := hide (show -9223372036854775808 ≤ iv ∧ iv ≤ 9223372036854775807 by rw [← hiv]; exact parseV_bounds _)
            have NX2 := hide (next_any (X + 1) r3 u9 EN9.out (by omega) BR.out)
            have PV := hide (fun W (hE : Env W) => parse_any (bs (cutAt 32 r3).1) (by rw [bs_size]; have := (cut_le 32 r3).1; omega) W hE)
            simp only [bs_list, hiv] at PV
            clear hm0 hiv PG BR
            go_wp2_with (first
              | (go_at_call 99; (with_reducible refine NX2.out.mono ?_); rintro e ua ⟨rfl, b', o'⟩; have ENa := hide (EN9.out.far o' (by simp; omega)); have Oa := hide o'; clear b' o')
              | (go_at_call 105; (with_reducible refine (PV.out _ ENa.out).mono ?_); rintro e ub ⟨⟨er, rfl⟩, o'⟩; have Ob := Oa.out.trans0 o'; have ENb := hide (ENa.out.only o'); have BJb := hide (BJ.out.only Ob (by have := HIX.out; simp; omega)); have BYb := hide (BX9.out.only Ob (by simp)); have Obw := hide (O9.out.trans Ob (fun x hx => .inr (by have := HX.out; simp at hx; omega))); have x0 := BJb.out.cell 0; have x1 := BJb.out.cell 1; have x2 := BJb.out.cell 2; have x3 := BJb.out.cell 3; have x4 := BJb.out.cell 4; have y4 := BJb.out.frozen 4; clear o' Ob))
            have BA := hide (show Blk (ub.setCell ⟨I, 4, none⟩ (.int .i64 iv)) I 99 #[.int .i64 (k : Int), .int .i64 v1, .int .i64 v2, .int .i64 v3, .int .i64 iv] from by simpa using BJb.out.set_ 4 (.int .i64 iv))
            have BY := hide (BYb.out.far (p := ⟨I, 4, none⟩) (by have := HIX.out; simp; omega) (.int .i64 iv))
            have oI : Only [I] ub (ub.setCell ⟨I, 4, none⟩ (.int .i64 iv)) := (Only.refl _ _).setCell (p := ⟨I, 4, none⟩) (.inl (by simp)) _
            have EA := hide (ENb.out.far oI (by have := HIX.out; simp; omega))
            have OA := hide (Obw.out.trans oI (fun x hx => .inr (by have := HX.out; have := HIX.out; simp at hx; omega)))
            clear x0 x1 x2 x3 x4 y4 o4 fF oI ENb BJb BYb Obw ENa Oa BJ BX9 EN9 O9 NX2 PV
            generalize ub.setCell ⟨I, 4, none⟩ (.int .i64 iv) = ua at *
            have LN : Calls Tryz.prog 70 #[.agg #[.int .i64 (k : Int), .int .i64 v1, .int .i64 v2, .int .i64 v3, .int .i64 iv]] ua fun e w' => e = .returned (.tuple #[.string (if mayI ⟨k, v1, v2, v3, iv⟩ 256 then bs (lineB ⟨k, v1, v2, v3, iv⟩) else bs []), .int .i64 (if mayI ⟨k, v1, v2, v3, iv⟩ 256 then 0 else 2)]) ∧ Only [] ua w' := line_any ⟨k, v1, v2, v3, iv⟩ ua EA.out HBi.out.1 HBi.out.2
            clear EA
            cases hmay : mayI ⟨k, v1, v2, v3, iv⟩ 256 with
            | true =>
              simp only [hmay, if_true] at LN
              by_cases hln : lineB ⟨k, v1, v2, v3, iv⟩ = s
              · have hcmp : ((bs (lineB ⟨k, v1, v2, v3, iv⟩)).toList == (bs s).toList) = true := by rw [bs_eq]; simpa using hln
                have PGF := hide (show parP s = some ⟨k, v1, v2, v3, iv⟩ by rw [PG2.out, if_pos ⟨hmay, hln⟩])
                obtain ⟨lb, hlb⟩ : ∃ lb, bs (lineB ⟨k, v1, v2, v3, iv⟩) = lb := ⟨_, rfl⟩
                rw [hlb] at LN hcmp
                clear hmay hln hlb PG2
                refine LN.mono ?_
                rintro e ux ⟨rfl, ox⟩
                have BZ := hide (BY.out.only ox (by simp))
                have BI := BA.out.only ox (by simp)
                have OZ := hide (OA.out.trans0 ox)
                have x0 : ux.cell? ⟨X, 0, none⟩ = some (.int .i64 0) := BZ.out.cell 0
                have y0 := BZ.out.frozen 0
                have j0 := BI.cell 0
                have x1 : ux.cell? ⟨X, 1, none⟩ = some (.int .i64 0) := BZ.out.cell 1
                have y1 := BZ.out.frozen 1
                have j1 := BI.cell 1
                have x2 : ux.cell? ⟨X, 2, none⟩ = some (.int .i64 0) := BZ.out.cell 2
                have y2 := BZ.out.frozen 2
                have j2 := BI.cell 2
                have x3 : ux.cell? ⟨X, 3, none⟩ = some (.int .i64 0) := BZ.out.cell 3
                have y3 := BZ.out.frozen 3
                have j3 := BI.cell 3
                have x4 : ux.cell? ⟨X, 4, none⟩ = some (.int .i64 0) := BZ.out.cell 4
                have y4 := BZ.out.frozen 4
                have j4 := BI.cell 4
                clear LN ox BI
                go_wp2_with fail
                rw [PGF.out]
                have BFF := (((((BZ.out).set_ 0 (.int .i64 (k : Int))).set_ 1 (.int .i64 v1)).set_ 2 (.int .i64 v2)).set_ 3 (.int .i64 v3)).set_ 4 (.int .i64 iv)
                refine bodyPost_ret (v := .tuple #[.agg (insV ⟨k, v1, v2, v3, iv⟩), .int .i64 0]) (results_cell2 Tryz.results78 rfl rfl (load24 (a := .int .i64 (k : Int)) (b := .int .i64 v1) (c := .int .i64 v2) (d := .int .i64 v3) (e := .int .i64 iv) (by simpa [z5] using BFF))) rfl ⟨rfl, ?_⟩
                exact (((((((OZ.out.mono (T := [X]) (by simp))).setCell (p := ⟨X, 0, none⟩) (.inl (by simp)) _).setCell (p := ⟨X, 1, none⟩) (.inl (by simp)) _).setCell (p := ⟨X, 2, none⟩) (.inl (by simp)) _).setCell (p := ⟨X, 3, none⟩) (.inl (by simp)) _).setCell (p := ⟨X, 4, none⟩) (.inl (by simp)) _).mono (fun x hx => .inr (by have := HX.out; simp at hx; omega))
              · have hcmp : ((bs (lineB ⟨k, v1, v2, v3, iv⟩)).toList == (bs s).toList) = false := by rw [bs_eq]; simpa using hln
                have PGF := hide (show parP s = none by rw [PG2.out, if_neg (fun h => hln h.2)])
                obtain ⟨lb, hlb⟩ : ∃ lb, bs (lineB ⟨k, v1, v2, v3, iv⟩) = lb := ⟨_, rfl⟩
                rw [hlb] at LN hcmp
                clear hmay hln hlb PG2
                refine LN.mono ?_
                rintro e ux ⟨rfl, ox⟩
                have BZ := hide (BY.out.only ox (by simp))
                have BI := BA.out.only ox (by simp)
                have OZ := hide (OA.out.trans0 ox)
                have x0 : ux.cell? ⟨X, 0, none⟩ = some (.int .i64 0) := BZ.out.cell 0
                have y0 := BZ.out.frozen 0
                have j0 := BI.cell 0
                have x1 : ux.cell? ⟨X, 1, none⟩ = some (.int .i64 0) := BZ.out.cell 1
                have y1 := BZ.out.frozen 1
                have j1 := BI.cell 1
                have x2 : ux.cell? ⟨X, 2, none⟩ = some (.int .i64 0) := BZ.out.cell 2
                have y2 := BZ.out.frozen 2
                have j2 := BI.cell 2
                have x3 : ux.cell? ⟨X, 3, none⟩ = some (.int .i64 0) := BZ.out.cell 3
                have y3 := BZ.out.frozen 3
                have j3 := BI.cell 3
                have x4 : ux.cell? ⟨X, 4, none⟩ = some (.int .i64 0) := BZ.out.cell 4
                have y4 := BZ.out.frozen 4
                have j4 := BI.cell 4
                clear LN ox BI
                go_wp2_with fail
                rw [PGF.out]
                have BFF := (((((BZ.out).set_ 0 (.int .i64 0)).set_ 1 (.int .i64 0)).set_ 2 (.int .i64 0)).set_ 3 (.int .i64 0)).set_ 4 (.int .i64 0)
                refine bodyPost_ret (v := .tuple #[.agg z5, .int .i64 4]) (results_cell2 Tryz.results78 rfl rfl (load24 (a := .int .i64 0) (b := .int .i64 0) (c := .int .i64 0) (d := .int .i64 0) (e := .int .i64 0) (by simpa [z5] using BFF))) rfl ⟨rfl, ?_⟩
                exact (((((((OZ.out.mono (T := [X]) (by simp))).setCell (p := ⟨X, 0, none⟩) (.inl (by simp)) _).setCell (p := ⟨X, 1, none⟩) (.inl (by simp)) _).setCell (p := ⟨X, 2, none⟩) (.inl (by simp)) _).setCell (p := ⟨X, 3, none⟩) (.inl (by simp)) _).setCell (p := ⟨X, 4, none⟩) (.inl (by simp)) _).mono (fun x hx => .inr (by have := HX.out; simp at hx; omega))
            | false =>
              simp only [hmay, Bool.false_eq_true, if_false] at LN
              have PGF := hide (show parP s = none by rw [PG2.out, if_neg (fun h => by rw [hmay] at h; exact absurd h.1 (by decide))])
              clear hmay PG2
              refine LN.mono ?_
              rintro e ux ⟨rfl, ox⟩
              have BZ := hide (BY.out.only ox (by simp))
              have BI := BA.out.only ox (by simp)
              have OZ := hide (OA.out.trans0 ox)
              have x0 : ux.cell? ⟨X, 0, none⟩ = some (.int .i64 0) := BZ.out.cell 0
              have y0 := BZ.out.frozen 0
              have j0 := BI.cell 0
              have x1 : ux.cell? ⟨X, 1, none⟩ = some (.int .i64 0) := BZ.out.cell 1
              have y1 := BZ.out.frozen 1
              have j1 := BI.cell 1
              have x2 : ux.cell? ⟨X, 2, none⟩ = some (.int .i64 0) := BZ.out.cell 2
              have y2 := BZ.out.frozen 2
              have j2 := BI.cell 2
              have x3 : ux.cell? ⟨X, 3, none⟩ = some (.int .i64 0) := BZ.out.cell 3
              have y3 := BZ.out.frozen 3
              have j3 := BI.cell 3
              have x4 : ux.cell? ⟨X, 4, none⟩ = some (.int .i64 0) := BZ.out.cell 4
              have y4 := BZ.out.frozen 4
              have j4 := BI.cell 4
              clear LN ox BI
              go_wp2_with fail
              rw [PGF.out]
              have BFF := (((((BZ.out).set_ 0 (.int .i64 0)).set_ 1 (.int .i64 0)).set_ 2 (.int .i64 0)).set_ 3 (.int .i64 0)).set_ 4 (.int .i64 0)
              refine bodyPost_ret (v := .tuple #[.agg z5, .int .i64 4]) (results_cell2 Tryz.results78 rfl rfl (load24 (a := .int .i64 0) (b := .int .i64 0) (c := .int .i64 0) (d := .int .i64 0) (e := .int .i64 0) (by simpa [z5] using BFF))) rfl ⟨rfl, ?_⟩
              exact (((((((OZ.out.mono (T := [X]) (by simp))).setCell (p := ⟨X, 0, none⟩) (.inl (by simp)) _).setCell (p := ⟨X, 1, none⟩) (.inl (by simp)) _).setCell (p := ⟨X, 2, none⟩) (.inl (by simp)) _).setCell (p := ⟨X, 3, none⟩) (.inl (by simp)) _).setCell (p := ⟨X, 4, none⟩) (.inl (by simp)) _).mono (fun x hx => .inr (by have := HX.out; simp at hx; omega))
        · skip
          rw [if_pos (by rfl)]
          go_simp
          obtain ⟨I, hI⟩ : ∃ I, (u4_8).heap.size = I := ⟨_, rfl⟩; obtain ⟨u4_8_14, hu⟩ : ∃ u, (u4_8).alloc (.cells #[.int .i64 0, .int .i64 0, .int .i64 0, .int .i64 0, .int .i64 0] 99) = u := ⟨_, rfl⟩; have BI3 := hide (show Blk u4_8_14 I 99 #[.int .i64 0, .int .i64 0, .int .i64 0, .int .i64 0, .int .i64 0] from by rw [← hu, ← hI]; exact Blk.new _ 99 _); have HB3 := hide (show Blk u4_8_14 (X + 1) 9 #[.string (bs r2)] from by rw [← hu]; exact HB2.out.alloc _); have OS := hide (show Only [X + 1] w5 u4_8_14 from by rw [← hu]; exact (show Only [X + 1] w5 u4_8 from hHeld).alloc _); have HI := hide (show w5.heap.size ≤ I from by rw [← hI]; exact (show Only [X + 1] w5 u4_8 from hHeld).size); rw [hI, hu]; clear hI hu
          try dsimp only
          refine hK.out _ _ (OS.out) (fun hHeld => ?_)
          clear hK K
          try simp only [Act.put, List.setIfInBounds_toArray, List.set_cons_zero, List.set_cons_succ]
          refine wpAnyH_ready (rs := [12]) (by kernel_rfl) (by simp) ?_
          refine AllReadyH.cons (o := ⟨some 42, _, _, _, _, _⟩) rfl (fun K hK => ?_) (AllReadyH.nil)
          rw [if_pos (by rfl)]
          have RG := reg_next db (X + 1) (X + 1 + 1) r2 u4_8_14 (EN5.out.far (show Only [X + 1] w5 u4_8_14 from hHeld) (by simp; omega)) (by omega) (by omega) HB3.out (BF5.out.only (show Only [X + 1] w5 u4_8_14 from hHeld) (by simp)); rw [HV3.out, HR3.out] at RG; have RG := hide RG
          go_simp
          (with_reducible refine RG.out.mono ?_); rintro e u4_8_14_12 ⟨rfl, b', o'⟩; have HB4 := hide b'; have OS := hide (show Only [X + 1] w5 u4_8_14_12 from (show Only [X + 1] w5 u4_8_14 from hHeld).trans o' (fun x hx => .inl hx)); have BI4 := hide (BI3.out.only o' (by have := HI.out; have := HN5.out; simp; omega)); clear b' o' RG
          try dsimp only
          refine hK.out _ _ (OS.out) (fun hHeld => ?_)
          clear hK K
          try simp only [Act.put, List.setIfInBounds_toArray, List.set_cons_zero, List.set_cons_succ]
          refine wpAnyH_take (i := 13) (oi := ⟨some 43, _, _, _, _, _⟩) (v := ?vg12) rfl (by kernel_rfl) (by kernel_rfl) (by kernel_rfl) (fun _ _ _ h => h) (Or.inl ⟨by rfl, ?hyg12⟩) (by assumption) ?restg12
          case hyg12 => (intro V hSw; (try dsimp only at hSw); go_simp; first | done | (with_reducible rfl))
          try simp only [Act.put, List.setIfInBounds_toArray, List.set_cons_zero, List.set_cons_succ]
          refine wpAnyH_ready (rs := [15]) (by kernel_rfl) (by simp) ?_
          refine AllReadyH.cons (o := ⟨none, _, _, _, _, _⟩) rfl (fun K hK => ?_) (AllReadyH.nil)
          rw [if_pos (by rfl)]
          have x0 : (u4_8_14_12).cell? ⟨I, 0, none⟩ = some (.int .i64 0) := BI4.out.cell 0; have y0 := BI4.out.frozen 0; have x1 : (u4_8_14_12).cell? ⟨I, 1, none⟩ = some (.int .i64 0) := BI4.out.cell 1; have y1 := BI4.out.frozen 1; have x2 : (u4_8_14_12).cell? ⟨I, 2, none⟩ = some (.int .i64 0) := BI4.out.cell 2; have y2 := BI4.out.frozen 2; have x3 : (u4_8_14_12).cell? ⟨I, 3, none⟩ = some (.int .i64 0) := BI4.out.cell 3; have y3 := BI4.out.frozen 3; have x4 : (u4_8_14_12).cell? ⟨I, 4, none⟩ = some (.int .i64 0) := BI4.out.cell 4; have y4 := BI4.out.frozen 4
          go_simp
          try dsimp only
          refine hK.out _ _ (((((((show Only [X + 1] w5 u4_8_14_12 from hHeld)).setCell (p := ⟨I, 0, none⟩) (.inr HI.out) (.int .i64 (k : Int))).setCell (p := ⟨I, 1, none⟩) (.inr HI.out) (.int .i64 v1)).setCell (p := ⟨I, 2, none⟩) (.inr HI.out) (.int .i64 v2)).setCell (p := ⟨I, 3, none⟩) (.inr HI.out) (.int .i64 v3)).setCell (p := ⟨I, 4, none⟩) (.inr HI.out) (.int .i64 0)) (fun hHeld => ?_)
          clear hK K
          try simp only [Act.put, List.setIfInBounds_toArray, List.set_cons_zero, List.set_cons_succ]
          refine wpAnyH_done (by kernel_rfl) ?_ _
          clear x0 y0 x1 y1 x2 y2 x3 y3 x4 y4
          have BJ := (((((BI4.out).set_ 0 (.int .i64 (k : Int))).set_ 1 (.int .i64 v1)).set_ 2 (.int .i64 v2)).set_ 3 (.int .i64 v3)).set_ 4 (.int .i64 0)
          have BJ := hide (show Blk ((((((u4_8_14_12).setCell ⟨I, 0, none⟩ (.int .i64 (k : Int))).setCell ⟨I, 1, none⟩ (.int .i64 v1)).setCell ⟨I, 2, none⟩ (.int .i64 v2)).setCell ⟨I, 3, none⟩ (.int .i64 v3)).setCell ⟨I, 4, none⟩ (.int .i64 0)) I 99 #[.int .i64 (k : Int), .int .i64 v1, .int .i64 v2, .int .i64 v3, .int .i64 0] from by simpa using BJ)
          have BR := hide (show Blk ((((((u4_8_14_12).setCell ⟨I, 0, none⟩ (.int .i64 (k : Int))).setCell ⟨I, 1, none⟩ (.int .i64 v1)).setCell ⟨I, 2, none⟩ (.int .i64 v2)).setCell ⟨I, 3, none⟩ (.int .i64 v3)).setCell ⟨I, 4, none⟩ (.int .i64 0)) (X + 1) 9 #[.string (bs r3)] from (((((HB4.out).far (p := ⟨I, 0, none⟩) (by have := HI.out; have := HN5.out; simp; omega) _).far (p := ⟨I, 1, none⟩) (by have := HI.out; have := HN5.out; simp; omega) _).far (p := ⟨I, 2, none⟩) (by have := HI.out; have := HN5.out; simp; omega) _).far (p := ⟨I, 3, none⟩) (by have := HI.out; have := HN5.out; simp; omega) _).far (p := ⟨I, 4, none⟩) (by have := HI.out; have := HN5.out; simp; omega) _)
          have OS := hide (show Only [X + 1] w5 ((((((u4_8_14_12).setCell ⟨I, 0, none⟩ (.int .i64 (k : Int))).setCell ⟨I, 1, none⟩ (.int .i64 v1)).setCell ⟨I, 2, none⟩ (.int .i64 v2)).setCell ⟨I, 3, none⟩ (.int .i64 v3)).setCell ⟨I, 4, none⟩ (.int .i64 0)) from hHeld)
          generalize (((((u4_8_14_12).setCell ⟨I, 0, none⟩ (.int .i64 (k : Int))).setCell ⟨I, 1, none⟩ (.int .i64 v1)).setCell ⟨I, 2, none⟩ (.int .i64 v2)).setCell ⟨I, 3, none⟩ (.int .i64 v3)).setCell ⟨I, 4, none⟩ (.int .i64 0) = u9 at BJ BR OS ⊢
          clear hHeld CO HB0 HB1 HB2 HB3 HB4 BI3 BI4
          have EN9 := hide (EN5.out.far OS.out (by simp; omega))
          have BX9 := hide (BX5.out.only OS.out (by simp))
          have BO9 := BO5.out.only OS.out (by simp; omega)
          have BF9 := BF5.out.only OS.out (by simp)
          have o4 := BO9.cell 4
          have fF := BF9.cell 0
          have O9 := hide (O5.out.trans OS.out (fun x hx => .inr (by have := HX.out; simp at hx; omega)))
          have HIX := hide (show X + 3 ≤ I by have := HI.out; have := HN5.out; omega)
          have x0 := BJ.out.cell 0
          have x1 := BJ.out.cell 1
          have x2 := BJ.out.cell 2
          have x3 := BJ.out.cell 3
          have x4 := BJ.out.cell 4
          clear BO9 BF9 OS BX5 BF5 BO5 EN5 O5
          by_cases hm0 : mm = 0
          · have dm : ((mm : Int) != 0) = false := by rw [hm0]; rfl
            obtain ⟨iv, hiv⟩ : ∃ iv : Int, 0 = iv := ⟨_, rfl⟩
            have PG2 := PG.out
            rw [hm0, show immP 0 r3 = 0 from rfl, hiv] at PG2
            have PG2 := hide PG2
            rw [hiv] at x4 BJ
            have HBi := hide (show -9223372036854775808 ≤ iv ∧ iv ≤ 9223372036854775807 by omega)
            have BA := BJ
            have BY := BX9
            have EA := EN9
            have OA := O9
            have HM0 := hide hm0
            have HIV := hide hiv
            clear hm0 hiv PG BR BJ BX9 EN9 O9
            go_wp2_with fail
            clear x0 x1 x2 x3 x4 o4 fF
            generalize u9 = ua at *
            have LN : Calls Tryz.prog 70 #[.agg #[.int .i64 (k : Int), .int .i64 v1, .int .i64 v2, .int .i64 v3, .int .i64 iv]] ua fun e w' => e = .returned (.tuple #[.string (if mayI ⟨k, v1, v2, v3, iv⟩ 256 then bs (lineB ⟨k, v1, v2, v3, iv⟩) else bs []), .int .i64 (if mayI ⟨k, v1, v2, v3, iv⟩ 256 then 0 else 2)]) ∧ Only [] ua w' := line_any ⟨k, v1, v2, v3, iv⟩ ua EA.out HBi.out.1 HBi.out.2
            clear EA
            cases hmay : mayI ⟨k, v1, v2, v3, iv⟩ 256 with
            | true =>
              simp only [hmay, if_true] at LN
              by_cases hln : lineB ⟨k, v1, v2, v3, iv⟩ = s
              · have hcmp : ((bs (lineB ⟨k, v1, v2, v3, iv⟩)).toList == (bs s).toList) = true := by rw [bs_eq]; simpa using hln
                have PGF := hide (show parP s = some ⟨k, v1, v2, v3, iv⟩ by rw [PG2.out, if_pos ⟨hmay, hln⟩])
                obtain ⟨lb, hlb⟩ : ∃ lb, bs (lineB ⟨k, v1, v2, v3, iv⟩) = lb := ⟨_, rfl⟩
                rw [hlb] at LN hcmp
                clear hmay hln hlb PG2
                refine LN.mono ?_
                rintro e ux ⟨rfl, ox⟩
                have BZ := hide (BY.out.only ox (by simp))
                have BI := BA.out.only ox (by simp)
                have OZ := hide (OA.out.trans0 ox)
                have x0 : ux.cell? ⟨X, 0, none⟩ = some (.int .i64 0) := BZ.out.cell 0
                have y0 := BZ.out.frozen 0
                have j0 := BI.cell 0
                have x1 : ux.cell? ⟨X, 1, none⟩ = some (.int .i64 0) := BZ.out.cell 1
                have y1 := BZ.out.frozen 1
                have j1 := BI.cell 1
                have x2 : ux.cell? ⟨X, 2, none⟩ = some (.int .i64 0) := BZ.out.cell 2
                have y2 := BZ.out.frozen 2
                have j2 := BI.cell 2
                have x3 : ux.cell? ⟨X, 3, none⟩ = some (.int .i64 0) := BZ.out.cell 3
                have y3 := BZ.out.frozen 3
                have j3 := BI.cell 3
                have x4 : ux.cell? ⟨X, 4, none⟩ = some (.int .i64 0) := BZ.out.cell 4
                have y4 := BZ.out.frozen 4
                have j4 := BI.cell 4
                clear LN ox BI
                go_wp2_with fail
                rw [PGF.out]
                have BFF := (((((BZ.out).set_ 0 (.int .i64 (k : Int))).set_ 1 (.int .i64 v1)).set_ 2 (.int .i64 v2)).set_ 3 (.int .i64 v3)).set_ 4 (.int .i64 iv)
                refine bodyPost_ret (v := .tuple #[.agg (insV ⟨k, v1, v2, v3, iv⟩), .int .i64 0]) (results_cell2 Tryz.results78 rfl rfl (load24 (a := .int .i64 (k : Int)) (b := .int .i64 v1) (c := .int .i64 v2) (d := .int .i64 v3) (e := .int .i64 iv) (by simpa [z5] using BFF))) rfl ⟨rfl, ?_⟩
                exact (((((((OZ.out.mono (T := [X]) (by simp))).setCell (p := ⟨X, 0, none⟩) (.inl (by simp)) _).setCell (p := ⟨X, 1, none⟩) (.inl (by simp)) _).setCell (p := ⟨X, 2, none⟩) (.inl (by simp)) _).setCell (p := ⟨X, 3, none⟩) (.inl (by simp)) _).setCell (p := ⟨X, 4, none⟩) (.inl (by simp)) _).mono (fun x hx => .inr (by have := HX.out; simp at hx; omega))
              · have hcmp : ((bs (lineB ⟨k, v1, v2, v3, iv⟩)).toList == (bs s).toList) = false := by rw [bs_eq]; simpa using hln
                have PGF := hide (show parP s = none by rw [PG2.out, if_neg (fun h => hln h.2)])
                obtain ⟨lb, hlb⟩ : ∃ lb, bs (lineB ⟨k, v1, v2, v3, iv⟩) = lb := ⟨_, rfl⟩
                rw [hlb] at LN hcmp
                clear hmay hln hlb PG2
                refine LN.mono ?_
                rintro e ux ⟨rfl, ox⟩
                have BZ := hide (BY.out.only ox (by simp))
                have BI := BA.out.only ox (by simp)
                have OZ := hide (OA.out.trans0 ox)
                have x0 : ux.cell? ⟨X, 0, none⟩ = some (.int .i64 0) := BZ.out.cell 0
                have y0 := BZ.out.frozen 0
                have j0 := BI.cell 0
                have x1 : ux.cell? ⟨X, 1, none⟩ = some (.int .i64 0) := BZ.out.cell 1
                have y1 := BZ.out.frozen 1
                have j1 := BI.cell 1
                have x2 : ux.cell? ⟨X, 2, none⟩ = some (.int .i64 0) := BZ.out.cell 2
                have y2 := BZ.out.frozen 2
                have j2 := BI.cell 2
                have x3 : ux.cell? ⟨X, 3, none⟩ = some (.int .i64 0) := BZ.out.cell 3
                have y3 := BZ.out.frozen 3
                have j3 := BI.cell 3
                have x4 : ux.cell? ⟨X, 4, none⟩ = some (.int .i64 0) := BZ.out.cell 4
                have y4 := BZ.out.frozen 4
                have j4 := BI.cell 4
                clear LN ox BI
                go_wp2_with fail
                rw [PGF.out]
                have BFF := (((((BZ.out).set_ 0 (.int .i64 0)).set_ 1 (.int .i64 0)).set_ 2 (.int .i64 0)).set_ 3 (.int .i64 0)).set_ 4 (.int .i64 0)
                refine bodyPost_ret (v := .tuple #[.agg z5, .int .i64 4]) (results_cell2 Tryz.results78 rfl rfl (load24 (a := .int .i64 0) (b := .int .i64 0) (c := .int .i64 0) (d := .int .i64 0) (e := .int .i64 0) (by simpa [z5] using BFF))) rfl ⟨rfl, ?_⟩
                exact (((((((OZ.out.mono (T := [X]) (by simp))).setCell (p := ⟨X, 0, none⟩) (.inl (by simp)) _).setCell (p := ⟨X, 1, none⟩) (.inl (by simp)) _).setCell (p := ⟨X, 2, none⟩) (.inl (by simp)) _).setCell (p := ⟨X, 3, none⟩) (.inl (by simp)) _).setCell (p := ⟨X, 4, none⟩) (.inl (by simp)) _).mono (fun x hx => .inr (by have := HX.out; simp at hx; omega))
            | false =>
              simp only [hmay, Bool.false_eq_true, if_false] at LN
              have PGF := hide (show parP s = none by rw [PG2.out, if_neg (fun h => by rw [hmay] at h; exact absurd h.1 (by decide))])
              clear hmay PG2
              refine LN.mono ?_
              rintro e ux ⟨rfl, ox⟩
              have BZ := hide (BY.out.only ox (by simp))
              have BI := BA.out.only ox (by simp)
              have OZ := hide (OA.out.trans0 ox)
              have x0 : ux.cell? ⟨X, 0, none⟩ = some (.int .i64 0) := BZ.out.cell 0
              have y0 := BZ.out.frozen 0
              have j0 := BI.cell 0
              have x1 : ux.cell? ⟨X, 1, none⟩ = some (.int .i64 0) := BZ.out.cell 1
              have y1 := BZ.out.frozen 1
              have j1 := BI.cell 1
              have x2 : ux.cell? ⟨X, 2, none⟩ = some (.int .i64 0) := BZ.out.cell 2
              have y2 := BZ.out.frozen 2
              have j2 := BI.cell 2
              have x3 : ux.cell? ⟨X, 3, none⟩ = some (.int .i64 0) := BZ.out.cell 3
              have y3 := BZ.out.frozen 3
              have j3 := BI.cell 3
              have x4 : ux.cell? ⟨X, 4, none⟩ = some (.int .i64 0) := BZ.out.cell 4
              have y4 := BZ.out.frozen 4
              have j4 := BI.cell 4
              clear LN ox BI
              go_wp2_with fail
              rw [PGF.out]
              have BFF := (((((BZ.out).set_ 0 (.int .i64 0)).set_ 1 (.int .i64 0)).set_ 2 (.int .i64 0)).set_ 3 (.int .i64 0)).set_ 4 (.int .i64 0)
              refine bodyPost_ret (v := .tuple #[.agg z5, .int .i64 4]) (results_cell2 Tryz.results78 rfl rfl (load24 (a := .int .i64 0) (b := .int .i64 0) (c := .int .i64 0) (d := .int .i64 0) (e := .int .i64 0) (by simpa [z5] using BFF))) rfl ⟨rfl, ?_⟩
              exact (((((((OZ.out.mono (T := [X]) (by simp))).setCell (p := ⟨X, 0, none⟩) (.inl (by simp)) _).setCell (p := ⟨X, 1, none⟩) (.inl (by simp)) _).setCell (p := ⟨X, 2, none⟩) (.inl (by simp)) _).setCell (p := ⟨X, 3, none⟩) (.inl (by simp)) _).setCell (p := ⟨X, 4, none⟩) (.inl (by simp)) _).mono (fun x hx => .inr (by have := HX.out; simp at hx; omega))
          · have dm : ((mm : Int) != 0) = true := by simp [hm0]
            obtain ⟨iv, hiv⟩ : ∃ iv : Int, parseV (cutAt 32 r3).1 = iv := ⟨_, rfl⟩
            have PG2 := PG.out
            rw [show immP mm r3 = parseV (cutAt 32 r3).1 from if_pos hm0, hiv] at PG2
            have PG2 := hide PG2
            have HBi := hide (show -9223372036854775808 ≤ iv ∧ iv ≤ 9223372036854775807 by rw [← hiv]; exact parseV_bounds _)
            have NX2 := hide (next_any (X + 1) r3 u9 EN9.out (by omega) BR.out)
            have PV := hide (fun W (hE : Env W) => parse_any (bs (cutAt 32 r3).1) (by rw [bs_size]; have := (cut_le 32 r3).1; omega) W hE)
            simp only [bs_list, hiv] at PV
            clear hm0 hiv PG BR
            go_wp2_with (first
              | (go_at_call 99; (with_reducible refine NX2.out.mono ?_); rintro e ua ⟨rfl, b', o'⟩; have ENa := hide (EN9.out.far o' (by simp; omega)); have Oa := hide o'; clear b' o')
              | (go_at_call 105; (with_reducible refine (PV.out _ ENa.out).mono ?_); rintro e ub ⟨⟨er, rfl⟩, o'⟩; have Ob := Oa.out.trans0 o'; have ENb := hide (ENa.out.only o'); have BJb := hide (BJ.out.only Ob (by have := HIX.out; simp; omega)); have BYb := hide (BX9.out.only Ob (by simp)); have Obw := hide (O9.out.trans Ob (fun x hx => .inr (by have := HX.out; simp at hx; omega))); have x0 := BJb.out.cell 0; have x1 := BJb.out.cell 1; have x2 := BJb.out.cell 2; have x3 := BJb.out.cell 3; have x4 := BJb.out.cell 4; have y4 := BJb.out.frozen 4; clear o' Ob))
            have BA := hide (show Blk (ub.setCell ⟨I, 4, none⟩ (.int .i64 iv)) I 99 #[.int .i64 (k : Int), .int .i64 v1, .int .i64 v2, .int .i64 v3, .int .i64 iv] from by simpa using BJb.out.set_ 4 (.int .i64 iv))
            have BY := hide (BYb.out.far (p := ⟨I, 4, none⟩) (by have := HIX.out; simp; omega) (.int .i64 iv))
            have oI : Only [I] ub (ub.setCell ⟨I, 4, none⟩ (.int .i64 iv)) := (Only.refl _ _).setCell (p := ⟨I, 4, none⟩) (.inl (by simp)) _
            have EA := hide (ENb.out.far oI (by have := HIX.out; simp; omega))
            have OA := hide (Obw.out.trans oI (fun x hx => .inr (by have := HX.out; have := HIX.out; simp at hx; omega)))
            clear x0 x1 x2 x3 x4 y4 o4 fF oI ENb BJb BYb Obw ENa Oa BJ BX9 EN9 O9 NX2 PV
            generalize ub.setCell ⟨I, 4, none⟩ (.int .i64 iv) = ua at *
            have LN : Calls Tryz.prog 70 #[.agg #[.int .i64 (k : Int), .int .i64 v1, .int .i64 v2, .int .i64 v3, .int .i64 iv]] ua fun e w' => e = .returned (.tuple #[.string (if mayI ⟨k, v1, v2, v3, iv⟩ 256 then bs (lineB ⟨k, v1, v2, v3, iv⟩) else bs []), .int .i64 (if mayI ⟨k, v1, v2, v3, iv⟩ 256 then 0 else 2)]) ∧ Only [] ua w' := line_any ⟨k, v1, v2, v3, iv⟩ ua EA.out HBi.out.1 HBi.out.2
            clear EA
            cases hmay : mayI ⟨k, v1, v2, v3, iv⟩ 256 with
            | true =>
              simp only [hmay, if_true] at LN
              by_cases hln : lineB ⟨k, v1, v2, v3, iv⟩ = s
              · have hcmp : ((bs (lineB ⟨k, v1, v2, v3, iv⟩)).toList == (bs s).toList) = true := by rw [bs_eq]; simpa using hln
                have PGF := hide (show parP s = some ⟨k, v1, v2, v3, iv⟩ by rw [PG2.out, if_pos ⟨hmay, hln⟩])
                obtain ⟨lb, hlb⟩ : ∃ lb, bs (lineB ⟨k, v1, v2, v3, iv⟩) = lb := ⟨_, rfl⟩
                rw [hlb] at LN hcmp
                clear hmay hln hlb PG2
                refine LN.mono ?_
                rintro e ux ⟨rfl, ox⟩
                have BZ := hide (BY.out.only ox (by simp))
                have BI := BA.out.only ox (by simp)
                have OZ := hide (OA.out.trans0 ox)
                have x0 : ux.cell? ⟨X, 0, none⟩ = some (.int .i64 0) := BZ.out.cell 0
                have y0 := BZ.out.frozen 0
                have j0 := BI.cell 0
                have x1 : ux.cell? ⟨X, 1, none⟩ = some (.int .i64 0) := BZ.out.cell 1
                have y1 := BZ.out.frozen 1
                have j1 := BI.cell 1
                have x2 : ux.cell? ⟨X, 2, none⟩ = some (.int .i64 0) := BZ.out.cell 2
                have y2 := BZ.out.frozen 2
                have j2 := BI.cell 2
                have x3 : ux.cell? ⟨X, 3, none⟩ = some (.int .i64 0) := BZ.out.cell 3
                have y3 := BZ.out.frozen 3
                have j3 := BI.cell 3
                have x4 : ux.cell? ⟨X, 4, none⟩ = some (.int .i64 0) := BZ.out.cell 4
                have y4 := BZ.out.frozen 4
                have j4 := BI.cell 4
                clear LN ox BI
                go_wp2_with fail
                rw [PGF.out]
                have BFF := (((((BZ.out).set_ 0 (.int .i64 (k : Int))).set_ 1 (.int .i64 v1)).set_ 2 (.int .i64 v2)).set_ 3 (.int .i64 v3)).set_ 4 (.int .i64 iv)
                refine bodyPost_ret (v := .tuple #[.agg (insV ⟨k, v1, v2, v3, iv⟩), .int .i64 0]) (results_cell2 Tryz.results78 rfl rfl (load24 (a := .int .i64 (k : Int)) (b := .int .i64 v1) (c := .int .i64 v2) (d := .int .i64 v3) (e := .int .i64 iv) (by simpa [z5] using BFF))) rfl ⟨rfl, ?_⟩
                exact (((((((OZ.out.mono (T := [X]) (by simp))).setCell (p := ⟨X, 0, none⟩) (.inl (by simp)) _).setCell (p := ⟨X, 1, none⟩) (.inl (by simp)) _).setCell (p := ⟨X, 2, none⟩) (.inl (by simp)) _).setCell (p := ⟨X, 3, none⟩) (.inl (by simp)) _).setCell (p := ⟨X, 4, none⟩) (.inl (by simp)) _).mono (fun x hx => .inr (by have := HX.out; simp at hx; omega))
              · have hcmp : ((bs (lineB ⟨k, v1, v2, v3, iv⟩)).toList == (bs s).toList) = false := by rw [bs_eq]; simpa using hln
                have PGF := hide (show parP s = none by rw [PG2.out, if_neg (fun h => hln h.2)])
                obtain ⟨lb, hlb⟩ : ∃ lb, bs (lineB ⟨k, v1, v2, v3, iv⟩) = lb := ⟨_, rfl⟩
                rw [hlb] at LN hcmp
                clear hmay hln hlb PG2
                refine LN.mono ?_
                rintro e ux ⟨rfl, ox⟩
                have BZ := hide (BY.out.only ox (by simp))
                have BI := BA.out.only ox (by simp)
                have OZ := hide (OA.out.trans0 ox)
                have x0 : ux.cell? ⟨X, 0, none⟩ = some (.int .i64 0) := BZ.out.cell 0
                have y0 := BZ.out.frozen 0
                have j0 := BI.cell 0
                have x1 : ux.cell? ⟨X, 1, none⟩ = some (.int .i64 0) := BZ.out.cell 1
                have y1 := BZ.out.frozen 1
                have j1 := BI.cell 1
                have x2 : ux.cell? ⟨X, 2, none⟩ = some (.int .i64 0) := BZ.out.cell 2
                have y2 := BZ.out.frozen 2
                have j2 := BI.cell 2
                have x3 : ux.cell? ⟨X, 3, none⟩ = some (.int .i64 0) := BZ.out.cell 3
                have y3 := BZ.out.frozen 3
                have j3 := BI.cell 3
                have x4 : ux.cell? ⟨X, 4, none⟩ = some (.int .i64 0) := BZ.out.cell 4
                have y4 := BZ.out.frozen 4
                have j4 := BI.cell 4
                clear LN ox BI
                go_wp2_with fail
                rw [PGF.out]
                have BFF := (((((BZ.out).set_ 0 (.int .i64 0)).set_ 1 (.int .i64 0)).set_ 2 (.int .i64 0)).set_ 3 (.int .i64 0)).set_ 4 (.int .i64 0)
                refine bodyPost_ret (v := .tuple #[.agg z5, .int .i64 4]) (results_cell2 Tryz.results78 rfl rfl (load24 (a := .int .i64 0) (b := .int .i64 0) (c := .int .i64 0) (d := .int .i64 0) (e := .int .i64 0) (by simpa [z5] using BFF))) rfl ⟨rfl, ?_⟩
                exact (((((((OZ.out.mono (T := [X]) (by simp))).setCell (p := ⟨X, 0, none⟩) (.inl (by simp)) _).setCell (p := ⟨X, 1, none⟩) (.inl (by simp)) _).setCell (p := ⟨X, 2, none⟩) (.inl (by simp)) _).setCell (p := ⟨X, 3, none⟩) (.inl (by simp)) _).setCell (p := ⟨X, 4, none⟩) (.inl (by simp)) _).mono (fun x hx => .inr (by have := HX.out; simp at hx; omega))
            | false =>
              simp only [hmay, Bool.false_eq_true, if_false] at LN
              have PGF := hide (show parP s = none by rw [PG2.out, if_neg (fun h => by rw [hmay] at h; exact absurd h.1 (by decide))])
              clear hmay PG2
              refine LN.mono ?_
              rintro e ux ⟨rfl, ox⟩
              have BZ := hide (BY.out.only ox (by simp))
              have BI := BA.out.only ox (by simp)
              have OZ := hide (OA.out.trans0 ox)
              have x0 : ux.cell? ⟨X, 0, none⟩ = some (.int .i64 0) := BZ.out.cell 0
              have y0 := BZ.out.frozen 0
              have j0 := BI.cell 0
              have x1 : ux.cell? ⟨X, 1, none⟩ = some (.int .i64 0) := BZ.out.cell 1
              have y1 := BZ.out.frozen 1
              have j1 := BI.cell 1
              have x2 : ux.cell? ⟨X, 2, none⟩ = some (.int .i64 0) := BZ.out.cell 2
              have y2 := BZ.out.frozen 2
              have j2 := BI.cell 2
              have x3 : ux.cell? ⟨X, 3, none⟩ = some (.int .i64 0) := BZ.out.cell 3
              have y3 := BZ.out.frozen 3
              have j3 := BI.cell 3
              have x4 : ux.cell? ⟨X, 4, none⟩ = some (.int .i64 0) := BZ.out.cell 4
              have y4 := BZ.out.frozen 4
              have j4 := BI.cell 4
              clear LN ox BI
              go_wp2_with fail
              rw [PGF.out]
              have BFF := (((((BZ.out).set_ 0 (.int .i64 0)).set_ 1 (.int .i64 0)).set_ 2 (.int .i64 0)).set_ 3 (.int .i64 0)).set_ 4 (.int .i64 0)
              refine bodyPost_ret (v := .tuple #[.agg z5, .int .i64 4]) (results_cell2 Tryz.results78 rfl rfl (load24 (a := .int .i64 0) (b := .int .i64 0) (c := .int .i64 0) (d := .int .i64 0) (e := .int .i64 0) (by simpa [z5] using BFF))) rfl ⟨rfl, ?_⟩
              exact (((((((OZ.out.mono (T := [X]) (by simp))).setCell (p := ⟨X, 0, none⟩) (.inl (by simp)) _).setCell (p := ⟨X, 1, none⟩) (.inl (by simp)) _).setCell (p := ⟨X, 2, none⟩) (.inl (by simp)) _).setCell (p := ⟨X, 3, none⟩) (.inl (by simp)) _).setCell (p := ⟨X, 4, none⟩) (.inl (by simp)) _).mono (fun x hx => .inr (by have := HX.out; simp at hx; omega))
      · skip
        rw [if_pos (by rfl)]
        go_simp
        obtain ⟨I, hI⟩ : ∃ I, (u4).heap.size = I := ⟨_, rfl⟩; obtain ⟨u4_14, hu⟩ : ∃ u, (u4).alloc (.cells #[.int .i64 0, .int .i64 0, .int .i64 0, .int .i64 0, .int .i64 0] 99) = u := ⟨_, rfl⟩; have BI2 := hide (show Blk u4_14 I 99 #[.int .i64 0, .int .i64 0, .int .i64 0, .int .i64 0, .int .i64 0] from by rw [← hu, ← hI]; exact Blk.new _ 99 _); have HB2 := hide (show Blk u4_14 (X + 1) 9 #[.string (bs r1)] from by rw [← hu]; exact HB1.out.alloc _); have OS := hide (show Only [X + 1] w5 u4_14 from by rw [← hu]; exact (show Only [X + 1] w5 u4 from hHeld).alloc _); have HI := hide (show w5.heap.size ≤ I from by rw [← hI]; exact (show Only [X + 1] w5 u4 from hHeld).size); rw [hI, hu]; clear hI hu
        try dsimp only
        refine hK.out _ _ (OS.out) (fun hHeld => ?_)
        clear hK K
        try simp only [Act.put, List.setIfInBounds_toArray, List.set_cons_zero, List.set_cons_succ]
        refine wpAnyH_ready (rs := [8]) (by kernel_rfl) (by simp) ?_
        refine AllReadyH.cons (o := ⟨some 38, _, _, _, _, _⟩) rfl (fun K hK => ?_) (AllReadyH.nil)
        rw [if_pos (by rfl)]
        have RG := reg_next da (X + 1) (X + 1 + 1) r1 u4_14 (EN5.out.far (show Only [X + 1] w5 u4_14 from hHeld) (by simp; omega)) (by omega) (by omega) HB2.out (BF5.out.only (show Only [X + 1] w5 u4_14 from hHeld) (by simp)); rw [HV2.out, HR2.out] at RG; have RG := hide RG
        go_simp
        (with_reducible refine RG.out.mono ?_); rintro e u4_14_8 ⟨rfl, b', o'⟩; have HB3 := hide b'; have OS := hide (show Only [X + 1] w5 u4_14_8 from (show Only [X + 1] w5 u4_14 from hHeld).trans o' (fun x hx => .inl hx)); have BI3 := hide (BI2.out.only o' (by have := HI.out; have := HN5.out; simp; omega)); clear b' o' RG
        try dsimp only
        refine hK.out _ _ (OS.out) (fun hHeld => ?_)
        clear hK K
        try simp only [Act.put, List.setIfInBounds_toArray, List.set_cons_zero, List.set_cons_succ]
        refine wpAnyH_ready (rs := [12]) (by kernel_rfl) (by simp) ?_
        refine AllReadyH.cons (o := ⟨some 42, _, _, _, _, _⟩) rfl (fun K hK => ?_) (AllReadyH.nil)
        rw [if_pos (by rfl)]
        have RG := reg_next db (X + 1) (X + 1 + 1) r2 u4_14_8 (EN5.out.far (show Only [X + 1] w5 u4_14_8 from hHeld) (by simp; omega)) (by omega) (by omega) HB3.out (BF5.out.only (show Only [X + 1] w5 u4_14_8 from hHeld) (by simp)); rw [HV3.out, HR3.out] at RG; have RG := hide RG
        go_simp
        (with_reducible refine RG.out.mono ?_); rintro e u4_14_8_12 ⟨rfl, b', o'⟩; have HB4 := hide b'; have OS := hide (show Only [X + 1] w5 u4_14_8_12 from (show Only [X + 1] w5 u4_14_8 from hHeld).trans o' (fun x hx => .inl hx)); have BI4 := hide (BI3.out.only o' (by have := HI.out; have := HN5.out; simp; omega)); clear b' o' RG
        try dsimp only
        refine hK.out _ _ (OS.out) (fun hHeld => ?_)
        clear hK K
        try simp only [Act.put, List.setIfInBounds_toArray, List.set_cons_zero, List.set_cons_succ]
        refine wpAnyH_take (i := 13) (oi := ⟨some 43, _, _, _, _, _⟩) (v := ?vg13) rfl (by kernel_rfl) (by kernel_rfl) (by kernel_rfl) (fun _ _ _ h => h) (Or.inl ⟨by rfl, ?hyg13⟩) (by assumption) ?restg13
        case hyg13 => (intro V hSw; (try dsimp only at hSw); go_simp; first | done | (with_reducible rfl))
        try simp only [Act.put, List.setIfInBounds_toArray, List.set_cons_zero, List.set_cons_succ]
        refine wpAnyH_ready (rs := [15]) (by kernel_rfl) (by simp) ?_
        refine AllReadyH.cons (o := ⟨none, _, _, _, _, _⟩) rfl (fun K hK => ?_) (AllReadyH.nil)
        rw [if_pos (by rfl)]
        have x0 : (u4_14_8_12).cell? ⟨I, 0, none⟩ = some (.int .i64 0) := BI4.out.cell 0; have y0 := BI4.out.frozen 0; have x1 : (u4_14_8_12).cell? ⟨I, 1, none⟩ = some (.int .i64 0) := BI4.out.cell 1; have y1 := BI4.out.frozen 1; have x2 : (u4_14_8_12).cell? ⟨I, 2, none⟩ = some (.int .i64 0) := BI4.out.cell 2; have y2 := BI4.out.frozen 2; have x3 : (u4_14_8_12).cell? ⟨I, 3, none⟩ = some (.int .i64 0) := BI4.out.cell 3; have y3 := BI4.out.frozen 3; have x4 : (u4_14_8_12).cell? ⟨I, 4, none⟩ = some (.int .i64 0) := BI4.out.cell 4; have y4 := BI4.out.frozen 4
        go_simp
        try dsimp only
        refine hK.out _ _ (((((((show Only [X + 1] w5 u4_14_8_12 from hHeld)).setCell (p := ⟨I, 0, none⟩) (.inr HI.out) (.int .i64 (k : Int))).setCell (p := ⟨I, 1, none⟩) (.inr HI.out) (.int .i64 v1)).setCell (p := ⟨I, 2, none⟩) (.inr HI.out) (.int .i64 v2)).setCell (p := ⟨I, 3, none⟩) (.inr HI.out) (.int .i64 v3)).setCell (p := ⟨I, 4, none⟩) (.inr HI.out) (.int .i64 0)) (fun hHeld => ?_)
        clear hK K
        try simp only [Act.put, List.setIfInBounds_toArray, List.set_cons_zero, List.set_cons_succ]
        refine wpAnyH_done (by kernel_rfl) ?_ _
        clear x0 y0 x1 y1 x2 y2 x3 y3 x4 y4
        have BJ := (((((BI4.out).set_ 0 (.int .i64 (k : Int))).set_ 1 (.int .i64 v1)).set_ 2 (.int .i64 v2)).set_ 3 (.int .i64 v3)).set_ 4 (.int .i64 0)
        have BJ := hide (show Blk ((((((u4_14_8_12).setCell ⟨I, 0, none⟩ (.int .i64 (k : Int))).setCell ⟨I, 1, none⟩ (.int .i64 v1)).setCell ⟨I, 2, none⟩ (.int .i64 v2)).setCell ⟨I, 3, none⟩ (.int .i64 v3)).setCell ⟨I, 4, none⟩ (.int .i64 0)) I 99 #[.int .i64 (k : Int), .int .i64 v1, .int .i64 v2, .int .i64 v3, .int .i64 0] from by simpa using BJ)
        have BR := hide (show Blk ((((((u4_14_8_12).setCell ⟨I, 0, none⟩ (.int .i64 (k : Int))).setCell ⟨I, 1, none⟩ (.int .i64 v1)).setCell ⟨I, 2, none⟩ (.int .i64 v2)).setCell ⟨I, 3, none⟩ (.int .i64 v3)).setCell ⟨I, 4, none⟩ (.int .i64 0)) (X + 1) 9 #[.string (bs r3)] from (((((HB4.out).far (p := ⟨I, 0, none⟩) (by have := HI.out; have := HN5.out; simp; omega) _).far (p := ⟨I, 1, none⟩) (by have := HI.out; have := HN5.out; simp; omega) _).far (p := ⟨I, 2, none⟩) (by have := HI.out; have := HN5.out; simp; omega) _).far (p := ⟨I, 3, none⟩) (by have := HI.out; have := HN5.out; simp; omega) _).far (p := ⟨I, 4, none⟩) (by have := HI.out; have := HN5.out; simp; omega) _)
        have OS := hide (show Only [X + 1] w5 ((((((u4_14_8_12).setCell ⟨I, 0, none⟩ (.int .i64 (k : Int))).setCell ⟨I, 1, none⟩ (.int .i64 v1)).setCell ⟨I, 2, none⟩ (.int .i64 v2)).setCell ⟨I, 3, none⟩ (.int .i64 v3)).setCell ⟨I, 4, none⟩ (.int .i64 0)) from hHeld)
        generalize (((((u4_14_8_12).setCell ⟨I, 0, none⟩ (.int .i64 (k : Int))).setCell ⟨I, 1, none⟩ (.int .i64 v1)).setCell ⟨I, 2, none⟩ (.int .i64 v2)).setCell ⟨I, 3, none⟩ (.int .i64 v3)).setCell ⟨I, 4, none⟩ (.int .i64 0) = u9 at BJ BR OS ⊢
        clear hHeld CO HB0 HB1 HB2 HB3 HB4 BI2 BI3 BI4
        have EN9 := hide (EN5.out.far OS.out (by simp; omega))
        have BX9 := hide (BX5.out.only OS.out (by simp))
        have BO9 := BO5.out.only OS.out (by simp; omega)
        have BF9 := BF5.out.only OS.out (by simp)
        have o4 := BO9.cell 4
        have fF := BF9.cell 0
        have O9 := hide (O5.out.trans OS.out (fun x hx => .inr (by have := HX.out; simp at hx; omega)))
        have HIX := hide (show X + 3 ≤ I by have := HI.out; have := HN5.out; omega)
        have x0 := BJ.out.cell 0
        have x1 := BJ.out.cell 1
        have x2 := BJ.out.cell 2
        have x3 := BJ.out.cell 3
        have x4 := BJ.out.cell 4
        clear BO9 BF9 OS BX5 BF5 BO5 EN5 O5
        by_cases hm0 : mm = 0
        · have dm : ((mm : Int) != 0) = false := by rw [hm0]; rfl
          obtain ⟨iv, hiv⟩ : ∃ iv : Int, 0 = iv := ⟨_, rfl⟩
          have PG2 := PG.out
          rw [hm0, show immP 0 r3 = 0 from rfl, hiv] at PG2
          have PG2 := hide PG2
          rw [hiv] at x4 BJ
          have HBi := hide (show -9223372036854775808 ≤ iv ∧ iv ≤ 9223372036854775807 by omega)
          have BA := BJ
          have BY := BX9
          have EA := EN9
          have OA := O9
          have HM0 := hide hm0
          have HIV := hide hiv
          clear hm0 hiv PG BR BJ BX9 EN9 O9
          go_wp2_with fail
          clear x0 x1 x2 x3 x4 o4 fF
          generalize u9 = ua at *
          have LN : Calls Tryz.prog 70 #[.agg #[.int .i64 (k : Int), .int .i64 v1, .int .i64 v2, .int .i64 v3, .int .i64 iv]] ua fun e w' => e = .returned (.tuple #[.string (if mayI ⟨k, v1, v2, v3, iv⟩ 256 then bs (lineB ⟨k, v1, v2, v3, iv⟩) else bs []), .int .i64 (if mayI ⟨k, v1, v2, v3, iv⟩ 256 then 0 else 2)]) ∧ Only [] ua w' := line_any ⟨k, v1, v2, v3, iv⟩ ua EA.out HBi.out.1 HBi.out.2
          clear EA
          cases hmay : mayI ⟨k, v1, v2, v3, iv⟩ 256 with
          | true =>
            simp only [hmay, if_true] at LN
            by_cases hln : lineB ⟨k, v1, v2, v3, iv⟩ = s
            · have hcmp : ((bs (lineB ⟨k, v1, v2, v3, iv⟩)).toList == (bs s).toList) = true := by rw [bs_eq]; simpa using hln
              have PGF := hide (show parP s = some ⟨k, v1, v2, v3, iv⟩ by rw [PG2.out, if_pos ⟨hmay, hln⟩])
              obtain ⟨lb, hlb⟩ : ∃ lb, bs (lineB ⟨k, v1, v2, v3, iv⟩) = lb := ⟨_, rfl⟩
              rw [hlb] at LN hcmp
              clear hmay hln hlb PG2
              refine LN.mono ?_
              rintro e ux ⟨rfl, ox⟩
              have BZ := hide (BY.out.only ox (by simp))
              have BI := BA.out.only ox (by simp)
              have OZ := hide (OA.out.trans0 ox)
              have x0 : ux.cell? ⟨X, 0, none⟩ = some (.int .i64 0) := BZ.out.cell 0
              have y0 := BZ.out.frozen 0
              have j0 := BI.cell 0
              have x1 : ux.cell? ⟨X, 1, none⟩ = some (.int .i64 0) := BZ.out.cell 1
              have y1 := BZ.out.frozen 1
              have j1 := BI.cell 1
              have x2 : ux.cell? ⟨X, 2, none⟩ = some (.int .i64 0) := BZ.out.cell 2
              have y2 := BZ.out.frozen 2
              have j2 := BI.cell 2
              have x3 : ux.cell? ⟨X, 3, none⟩ = some (.int .i64 0) := BZ.out.cell 3
              have y3 := BZ.out.frozen 3
              have j3 := BI.cell 3
              have x4 : ux.cell? ⟨X, 4, none⟩ = some (.int .i64 0) := BZ.out.cell 4
              have y4 := BZ.out.frozen 4
              have j4 := BI.cell 4
              clear LN ox BI
              go_wp2_with fail
              rw [PGF.out]
              have BFF := (((((BZ.out).set_ 0 (.int .i64 (k : Int))).set_ 1 (.int .i64 v1)).set_ 2 (.int .i64 v2)).set_ 3 (.int .i64 v3)).set_ 4 (.int .i64 iv)
              refine bodyPost_ret (v := .tuple #[.agg (insV ⟨k, v1, v2, v3, iv⟩), .int .i64 0]) (results_cell2 Tryz.results78 rfl rfl (load24 (a := .int .i64 (k : Int)) (b := .int .i64 v1) (c := .int .i64 v2) (d := .int .i64 v3) (e := .int .i64 iv) (by simpa [z5] using BFF))) rfl ⟨rfl, ?_⟩
              exact (((((((OZ.out.mono (T := [X]) (by simp))).setCell (p := ⟨X, 0, none⟩) (.inl (by simp)) _).setCell (p := ⟨X, 1, none⟩) (.inl (by simp)) _).setCell (p := ⟨X, 2, none⟩) (.inl (by simp)) _).setCell (p := ⟨X, 3, none⟩) (.inl (by simp)) _).setCell (p := ⟨X, 4, none⟩) (.inl (by simp)) _).mono (fun x hx => .inr (by have := HX.out; simp at hx; omega))
            · have hcmp : ((bs (lineB ⟨k, v1, v2, v3, iv⟩)).toList == (bs s).toList) = false := by rw [bs_eq]; simpa using hln
              have PGF := hide (show parP s = none by rw [PG2.out, if_neg (fun h => hln h.2)])
              obtain ⟨lb, hlb⟩ : ∃ lb, bs (lineB ⟨k, v1, v2, v3, iv⟩) = lb := ⟨_, rfl⟩
              rw [hlb] at LN hcmp
              clear hmay hln hlb PG2
              refine LN.mono ?_
              rintro e ux ⟨rfl, ox⟩
              have BZ := hide (BY.out.only ox (by simp))
              have BI := BA.out.only ox (by simp)
              have OZ := hide (OA.out.trans0 ox)
              have x0 : ux.cell? ⟨X, 0, none⟩ = some (.int .i64 0) := BZ.out.cell 0
              have y0 := BZ.out.frozen 0
              have j0 := BI.cell 0
              have x1 : ux.cell? ⟨X, 1, none⟩ = some (.int .i64 0) := BZ.out.cell 1
              have y1 := BZ.out.frozen 1
              have j1 := BI.cell 1
              have x2 : ux.cell? ⟨X, 2, none⟩ = some (.int .i64 0) := BZ.out.cell 2
              have y2 := BZ.out.frozen 2
              have j2 := BI.cell 2
              have x3 : ux.cell? ⟨X, 3, none⟩ = some (.int .i64 0) := BZ.out.cell 3
              have y3 := BZ.out.frozen 3
              have j3 := BI.cell 3
              have x4 : ux.cell? ⟨X, 4, none⟩ = some (.int .i64 0) := BZ.out.cell 4
              have y4 := BZ.out.frozen 4
              have j4 := BI.cell 4
              clear LN ox BI
              go_wp2_with fail
              rw [PGF.out]
              have BFF := (((((BZ.out).set_ 0 (.int .i64 0)).set_ 1 (.int .i64 0)).set_ 2 (.int .i64 0)).set_ 3 (.int .i64 0)).set_ 4 (.int .i64 0)
              refine bodyPost_ret (v := .tuple #[.agg z5, .int .i64 4]) (results_cell2 Tryz.results78 rfl rfl (load24 (a := .int .i64 0) (b := .int .i64 0) (c := .int .i64 0) (d := .int .i64 0) (e := .int .i64 0) (by simpa [z5] using BFF))) rfl ⟨rfl, ?_⟩
              exact (((((((OZ.out.mono (T := [X]) (by simp))).setCell (p := ⟨X, 0, none⟩) (.inl (by simp)) _).setCell (p := ⟨X, 1, none⟩) (.inl (by simp)) _).setCell (p := ⟨X, 2, none⟩) (.inl (by simp)) _).setCell (p := ⟨X, 3, none⟩) (.inl (by simp)) _).setCell (p := ⟨X, 4, none⟩) (.inl (by simp)) _).mono (fun x hx => .inr (by have := HX.out; simp at hx; omega))
          | false =>
            simp only [hmay, Bool.false_eq_true, if_false] at LN
            have PGF := hide (show parP s = none by rw [PG2.out, if_neg (fun h => by rw [hmay] at h; exact absurd h.1 (by decide))])
            clear hmay PG2
            refine LN.mono ?_
            rintro e ux ⟨rfl, ox⟩
            have BZ := hide (BY.out.only ox (by simp))
            have BI := BA.out.only ox (by simp)
            have OZ := hide (OA.out.trans0 ox)
            have x0 : ux.cell? ⟨X, 0, none⟩ = some (.int .i64 0) := BZ.out.cell 0
            have y0 := BZ.out.frozen 0
            have j0 := BI.cell 0
            have x1 : ux.cell? ⟨X, 1, none⟩ = some (.int .i64 0) := BZ.out.cell 1
            have y1 := BZ.out.frozen 1
            have j1 := BI.cell 1
            have x2 : ux.cell? ⟨X, 2, none⟩ = some (.int .i64 0) := BZ.out.cell 2
            have y2 := BZ.out.frozen 2
            have j2 := BI.cell 2
            have x3 : ux.cell? ⟨X, 3, none⟩ = some (.int .i64 0) := BZ.out.cell 3
            have y3 := BZ.out.frozen 3
            have j3 := BI.cell 3
            have x4 : ux.cell? ⟨X, 4, none⟩ = some (.int .i64 0) := BZ.out.cell 4
            have y4 := BZ.out.frozen 4
            have j4 := BI.cell 4
            clear LN ox BI
            go_wp2_with fail
            rw [PGF.out]
            have BFF := (((((BZ.out).set_ 0 (.int .i64 0)).set_ 1 (.int .i64 0)).set_ 2 (.int .i64 0)).set_ 3 (.int .i64 0)).set_ 4 (.int .i64 0)
            refine bodyPost_ret (v := .tuple #[.agg z5, .int .i64 4]) (results_cell2 Tryz.results78 rfl rfl (load24 (a := .int .i64 0) (b := .int .i64 0) (c := .int .i64 0) (d := .int .i64 0) (e := .int .i64 0) (by simpa [z5] using BFF))) rfl ⟨rfl, ?_⟩
            exact (((((((OZ.out.mono (T := [X]) (by simp))).setCell (p := ⟨X, 0, none⟩) (.inl (by simp)) _).setCell (p := ⟨X, 1, none⟩) (.inl (by simp)) _).setCell (p := ⟨X, 2, none⟩) (.inl (by simp)) _).setCell (p := ⟨X, 3, none⟩) (.inl (by simp)) _).setCell (p := ⟨X, 4, none⟩) (.inl (by simp)) _).mono (fun x hx => .inr (by have := HX.out; simp at hx; omega))
        · have dm : ((mm : Int) != 0) = true := by simp [hm0]
          obtain ⟨iv, hiv⟩ : ∃ iv : Int, parseV (cutAt 32 r3).1 = iv := ⟨_, rfl⟩
          have PG2 := PG.out
          rw [show immP mm r3 = parseV (cutAt 32 r3).1 from if_pos hm0, hiv] at PG2
          have PG2 := hide PG2
          have HBi := hide (show -9223372036854775808 ≤ iv ∧ iv ≤ 9223372036854775807 by rw [← hiv]; exact parseV_bounds _)
          have NX2 := hide (next_any (X + 1) r3 u9 EN9.out (by omega) BR.out)
          have PV := hide (fun W (hE : Env W) => parse_any (bs (cutAt 32 r3).1) (by rw [bs_size]; have := (cut_le 32 r3).1; omega) W hE)
          simp only [bs_list, hiv] at PV
          clear hm0 hiv PG BR
          go_wp2_with (first
            | (go_at_call 99; (with_reducible refine NX2.out.mono ?_); rintro e ua ⟨rfl, b', o'⟩; have ENa := hide (EN9.out.far o' (by simp; omega)); have Oa := hide o'; clear b' o')
            | (go_at_call 105; (with_reducible refine (PV.out _ ENa.out).mono ?_); rintro e ub ⟨⟨er, rfl⟩, o'⟩; have Ob := Oa.out.trans0 o'; have ENb := hide (ENa.out.only o'); have BJb := hide (BJ.out.only Ob (by have := HIX.out; simp; omega)); have BYb := hide (BX9.out.only Ob (by simp)); have Obw := hide (O9.out.trans Ob (fun x hx => .inr (by have := HX.out; simp at hx; omega))); have x0 := BJb.out.cell 0; have x1 := BJb.out.cell 1; have x2 := BJb.out.cell 2; have x3 := BJb.out.cell 3; have x4 := BJb.out.cell 4; have y4 := BJb.out.frozen 4; clear o' Ob))
          have BA := hide (show Blk (ub.setCell ⟨I, 4, none⟩ (.int .i64 iv)) I 99 #[.int .i64 (k : Int), .int .i64 v1, .int .i64 v2, .int .i64 v3, .int .i64 iv] from by simpa using BJb.out.set_ 4 (.int .i64 iv))
          have BY := hide (BYb.out.far (p := ⟨I, 4, none⟩) (by have := HIX.out; simp; omega) (.int .i64 iv))
          have oI : Only [I] ub (ub.setCell ⟨I, 4, none⟩ (.int .i64 iv)) := (Only.refl _ _).setCell (p := ⟨I, 4, none⟩) (.inl (by simp)) _
          have EA := hide (ENb.out.far oI (by have := HIX.out; simp; omega))
          have OA := hide (Obw.out.trans oI (fun x hx => .inr (by have := HX.out; have := HIX.out; simp at hx; omega)))
          clear x0 x1 x2 x3 x4 y4 o4 fF oI ENb BJb BYb Obw ENa Oa BJ BX9 EN9 O9 NX2 PV
          generalize ub.setCell ⟨I, 4, none⟩ (.int .i64 iv) = ua at *
          have LN : Calls Tryz.prog 70 #[.agg #[.int .i64 (k : Int), .int .i64 v1, .int .i64 v2, .int .i64 v3, .int .i64 iv]] ua fun e w' => e = .returned (.tuple #[.string (if mayI ⟨k, v1, v2, v3, iv⟩ 256 then bs (lineB ⟨k, v1, v2, v3, iv⟩) else bs []), .int .i64 (if mayI ⟨k, v1, v2, v3, iv⟩ 256 then 0 else 2)]) ∧ Only [] ua w' := line_any ⟨k, v1, v2, v3, iv⟩ ua EA.out HBi.out.1 HBi.out.2
          clear EA
          cases hmay : mayI ⟨k, v1, v2, v3, iv⟩ 256 with
          | true =>
            simp only [hmay, if_true] at LN
            by_cases hln : lineB ⟨k, v1, v2, v3, iv⟩ = s
            · have hcmp : ((bs (lineB ⟨k, v1, v2, v3, iv⟩)).toList == (bs s).toList) = true := by rw [bs_eq]; simpa using hln
              have PGF := hide (show parP s = some ⟨k, v1, v2, v3, iv⟩ by rw [PG2.out, if_pos ⟨hmay, hln⟩])
              obtain ⟨lb, hlb⟩ : ∃ lb, bs (lineB ⟨k, v1, v2, v3, iv⟩) = lb := ⟨_, rfl⟩
              rw [hlb] at LN hcmp
              clear hmay hln hlb PG2
              refine LN.mono ?_
              rintro e ux ⟨rfl, ox⟩
              have BZ := hide (BY.out.only ox (by simp))
              have BI := BA.out.only ox (by simp)
              have OZ := hide (OA.out.trans0 ox)
              have x0 : ux.cell? ⟨X, 0, none⟩ = some (.int .i64 0) := BZ.out.cell 0
              have y0 := BZ.out.frozen 0
              have j0 := BI.cell 0
              have x1 : ux.cell? ⟨X, 1, none⟩ = some (.int .i64 0) := BZ.out.cell 1
              have y1 := BZ.out.frozen 1
              have j1 := BI.cell 1
              have x2 : ux.cell? ⟨X, 2, none⟩ = some (.int .i64 0) := BZ.out.cell 2
              have y2 := BZ.out.frozen 2
              have j2 := BI.cell 2
              have x3 : ux.cell? ⟨X, 3, none⟩ = some (.int .i64 0) := BZ.out.cell 3
              have y3 := BZ.out.frozen 3
              have j3 := BI.cell 3
              have x4 : ux.cell? ⟨X, 4, none⟩ = some (.int .i64 0) := BZ.out.cell 4
              have y4 := BZ.out.frozen 4
              have j4 := BI.cell 4
              clear LN ox BI
              go_wp2_with fail
              rw [PGF.out]
              have BFF := (((((BZ.out).set_ 0 (.int .i64 (k : Int))).set_ 1 (.int .i64 v1)).set_ 2 (.int .i64 v2)).set_ 3 (.int .i64 v3)).set_ 4 (.int .i64 iv)
              refine bodyPost_ret (v := .tuple #[.agg (insV ⟨k, v1, v2, v3, iv⟩), .int .i64 0]) (results_cell2 Tryz.results78 rfl rfl (load24 (a := .int .i64 (k : Int)) (b := .int .i64 v1) (c := .int .i64 v2) (d := .int .i64 v3) (e := .int .i64 iv) (by simpa [z5] using BFF))) rfl ⟨rfl, ?_⟩
              exact (((((((OZ.out.mono (T := [X]) (by simp))).setCell (p := ⟨X, 0, none⟩) (.inl (by simp)) _).setCell (p := ⟨X, 1, none⟩) (.inl (by simp)) _).setCell (p := ⟨X, 2, none⟩) (.inl (by simp)) _).setCell (p := ⟨X, 3, none⟩) (.inl (by simp)) _).setCell (p := ⟨X, 4, none⟩) (.inl (by simp)) _).mono (fun x hx => .inr (by have := HX.out; simp at hx; omega))
            · have hcmp : ((bs (lineB ⟨k, v1, v2, v3, iv⟩)).toList == (bs s).toList) = false := by rw [bs_eq]; simpa using hln
              have PGF := hide (show parP s = none by rw [PG2.out, if_neg (fun h => hln h.2)])
              obtain ⟨lb, hlb⟩ : ∃ lb, bs (lineB ⟨k, v1, v2, v3, iv⟩) = lb := ⟨_, rfl⟩
              rw [hlb] at LN hcmp
              clear hmay hln hlb PG2
              refine LN.mono ?_
              rintro e ux ⟨rfl, ox⟩
              have BZ := hide (BY.out.only ox (by simp))
              have BI := BA.out.only ox (by simp)
              have OZ := hide (OA.out.trans0 ox)
              have x0 : ux.cell? ⟨X, 0, none⟩ = some (.int .i64 0) := BZ.out.cell 0
              have y0 := BZ.out.frozen 0
              have j0 := BI.cell 0
              have x1 : ux.cell? ⟨X, 1, none⟩ = some (.int .i64 0) := BZ.out.cell 1
              have y1 := BZ.out.frozen 1
              have j1 := BI.cell 1
              have x2 : ux.cell? ⟨X, 2, none⟩ = some (.int .i64 0) := BZ.out.cell 2
              have y2 := BZ.out.frozen 2
              have j2 := BI.cell 2
              have x3 : ux.cell? ⟨X, 3, none⟩ = some (.int .i64 0) := BZ.out.cell 3
              have y3 := BZ.out.frozen 3
              have j3 := BI.cell 3
              have x4 : ux.cell? ⟨X, 4, none⟩ = some (.int .i64 0) := BZ.out.cell 4
              have y4 := BZ.out.frozen 4
              have j4 := BI.cell 4
              clear LN ox BI
              go_wp2_with fail
              rw [PGF.out]
              have BFF := (((((BZ.out).set_ 0 (.int .i64 0)).set_ 1 (.int .i64 0)).set_ 2 (.int .i64 0)).set_ 3 (.int .i64 0)).set_ 4 (.int .i64 0)
              refine bodyPost_ret (v := .tuple #[.agg z5, .int .i64 4]) (results_cell2 Tryz.results78 rfl rfl (load24 (a := .int .i64 0) (b := .int .i64 0) (c := .int .i64 0) (d := .int .i64 0) (e := .int .i64 0) (by simpa [z5] using BFF))) rfl ⟨rfl, ?_⟩
              exact (((((((OZ.out.mono (T := [X]) (by simp))).setCell (p := ⟨X, 0, none⟩) (.inl (by simp)) _).setCell (p := ⟨X, 1, none⟩) (.inl (by simp)) _).setCell (p := ⟨X, 2, none⟩) (.inl (by simp)) _).setCell (p := ⟨X, 3, none⟩) (.inl (by simp)) _).setCell (p := ⟨X, 4, none⟩) (.inl (by simp)) _).mono (fun x hx => .inr (by have := HX.out; simp at hx; omega))
          | false =>
            simp only [hmay, Bool.false_eq_true, if_false] at LN
            have PGF := hide (show parP s = none by rw [PG2.out, if_neg (fun h => by rw [hmay] at h; exact absurd h.1 (by decide))])
            clear hmay PG2
            refine LN.mono ?_
            rintro e ux ⟨rfl, ox⟩
            have BZ := hide (BY.out.only ox (by simp))
            have BI := BA.out.only ox (by simp)
            have OZ := hide (OA.out.trans0 ox)
            have x0 : ux.cell? ⟨X, 0, none⟩ = some (.int .i64 0) := BZ.out.cell 0
            have y0 := BZ.out.frozen 0
            have j0 := BI.cell 0
            have x1 : ux.cell? ⟨X, 1, none⟩ = some (.int .i64 0) := BZ.out.cell 1
            have y1 := BZ.out.frozen 1
            have j1 := BI.cell 1
            have x2 : ux.cell? ⟨X, 2, none⟩ = some (.int .i64 0) := BZ.out.cell 2
            have y2 := BZ.out.frozen 2
            have j2 := BI.cell 2
            have x3 : ux.cell? ⟨X, 3, none⟩ = some (.int .i64 0) := BZ.out.cell 3
            have y3 := BZ.out.frozen 3
            have j3 := BI.cell 3
            have x4 : ux.cell? ⟨X, 4, none⟩ = some (.int .i64 0) := BZ.out.cell 4
            have y4 := BZ.out.frozen 4
            have j4 := BI.cell 4
            clear LN ox BI
            go_wp2_with fail
            rw [PGF.out]
            have BFF := (((((BZ.out).set_ 0 (.int .i64 0)).set_ 1 (.int .i64 0)).set_ 2 (.int .i64 0)).set_ 3 (.int .i64 0)).set_ 4 (.int .i64 0)
            refine bodyPost_ret (v := .tuple #[.agg z5, .int .i64 4]) (results_cell2 Tryz.results78 rfl rfl (load24 (a := .int .i64 0) (b := .int .i64 0) (c := .int .i64 0) (d := .int .i64 0) (e := .int .i64 0) (by simpa [z5] using BFF))) rfl ⟨rfl, ?_⟩
            exact (((((((OZ.out.mono (T := [X]) (by simp))).setCell (p := ⟨X, 0, none⟩) (.inl (by simp)) _).setCell (p := ⟨X, 1, none⟩) (.inl (by simp)) _).setCell (p := ⟨X, 2, none⟩) (.inl (by simp)) _).setCell (p := ⟨X, 3, none⟩) (.inl (by simp)) _).setCell (p := ⟨X, 4, none⟩) (.inl (by simp)) _).mono (fun x hx => .inr (by have := HX.out; simp at hx; omega))
    · skip
      rw [if_pos (by rfl)]
      go_simp
      obtain ⟨I, hI⟩ : ∃ I, (u0).heap.size = I := ⟨_, rfl⟩; obtain ⟨u14, hu⟩ : ∃ u, (u0).alloc (.cells #[.int .i64 0, .int .i64 0, .int .i64 0, .int .i64 0, .int .i64 0] 99) = u := ⟨_, rfl⟩; have BI1 := hide (show Blk u14 I 99 #[.int .i64 0, .int .i64 0, .int .i64 0, .int .i64 0, .int .i64 0] from by rw [← hu, ← hI]; exact Blk.new _ 99 _); have HB1 := hide (show Blk u14 (X + 1) 9 #[.string (bs r0)] from by rw [← hu]; exact HB0.out.alloc _); have OS := hide (show Only [X + 1] w5 u14 from by rw [← hu]; exact (show Only [X + 1] w5 u0 from hHeld).alloc _); have HI := hide (show w5.heap.size ≤ I from by rw [← hI]; exact (show Only [X + 1] w5 u0 from hHeld).size); rw [hI, hu]; clear hI hu
      try dsimp only
      refine hK.out _ _ (OS.out) (fun hHeld => ?_)
      clear hK K
      try simp only [Act.put, List.setIfInBounds_toArray, List.set_cons_zero, List.set_cons_succ]
      refine wpAnyH_ready (rs := [4]) (by kernel_rfl) (by simp) ?_
      refine AllReadyH.cons (o := ⟨some 34, _, _, _, _, _⟩) rfl (fun K hK => ?_) (AllReadyH.nil)
      rw [if_pos (by rfl)]
      have RG := reg_next dd (X + 1) (X + 1 + 1) r0 u14 (EN5.out.far (show Only [X + 1] w5 u14 from hHeld) (by simp; omega)) (by omega) (by omega) HB1.out (BF5.out.only (show Only [X + 1] w5 u14 from hHeld) (by simp)); rw [HV1.out, HR1.out] at RG; have RG := hide RG
      go_simp
      (with_reducible refine RG.out.mono ?_); rintro e u14_4 ⟨rfl, b', o'⟩; have HB2 := hide b'; have OS := hide (show Only [X + 1] w5 u14_4 from (show Only [X + 1] w5 u14 from hHeld).trans o' (fun x hx => .inl hx)); have BI2 := hide (BI1.out.only o' (by have := HI.out; have := HN5.out; simp; omega)); clear b' o' RG
      try dsimp only
      refine hK.out _ _ (OS.out) (fun hHeld => ?_)
      clear hK K
      try simp only [Act.put, List.setIfInBounds_toArray, List.set_cons_zero, List.set_cons_succ]
      refine wpAnyH_ready (rs := [8]) (by kernel_rfl) (by simp) ?_
      refine AllReadyH.cons (o := ⟨some 38, _, _, _, _, _⟩) rfl (fun K hK => ?_) (AllReadyH.nil)
      rw [if_pos (by rfl)]
      have RG := reg_next da (X + 1) (X + 1 + 1) r1 u14_4 (EN5.out.far (show Only [X + 1] w5 u14_4 from hHeld) (by simp; omega)) (by omega) (by omega) HB2.out (BF5.out.only (show Only [X + 1] w5 u14_4 from hHeld) (by simp)); rw [HV2.out, HR2.out] at RG; have RG := hide RG
      go_simp
      (with_reducible refine RG.out.mono ?_); rintro e u14_4_8 ⟨rfl, b', o'⟩; have HB3 := hide b'; have OS := hide (show Only [X + 1] w5 u14_4_8 from (show Only [X + 1] w5 u14_4 from hHeld).trans o' (fun x hx => .inl hx)); have BI3 := hide (BI2.out.only o' (by have := HI.out; have := HN5.out; simp; omega)); clear b' o' RG
      try dsimp only
      refine hK.out _ _ (OS.out) (fun hHeld => ?_)
      clear hK K
      try simp only [Act.put, List.setIfInBounds_toArray, List.set_cons_zero, List.set_cons_succ]
      refine wpAnyH_ready (rs := [12]) (by kernel_rfl) (by simp) ?_
      refine AllReadyH.cons (o := ⟨some 42, _, _, _, _, _⟩) rfl (fun K hK => ?_) (AllReadyH.nil)
      rw [if_pos (by rfl)]
      have RG := reg_next db (X + 1) (X + 1 + 1) r2 u14_4_8 (EN5.out.far (show Only [X + 1] w5 u14_4_8 from hHeld) (by simp; omega)) (by omega) (by omega) HB3.out (BF5.out.only (show Only [X + 1] w5 u14_4_8 from hHeld) (by simp)); rw [HV3.out, HR3.out] at RG; have RG := hide RG
      go_simp
      (with_reducible refine RG.out.mono ?_); rintro e u14_4_8_12 ⟨rfl, b', o'⟩; have HB4 := hide b'; have OS := hide (show Only [X + 1] w5 u14_4_8_12 from (show Only [X + 1] w5 u14_4_8 from hHeld).trans o' (fun x hx => .inl hx)); have BI4 := hide (BI3.out.only o' (by have := HI.out; have := HN5.out; simp; omega)); clear b' o' RG
      try dsimp only
      refine hK.out _ _ (OS.out) (fun hHeld => ?_)
      clear hK K
      try simp only [Act.put, List.setIfInBounds_toArray, List.set_cons_zero, List.set_cons_succ]
      refine wpAnyH_take (i := 13) (oi := ⟨some 43, _, _, _, _, _⟩) (v := ?vg14) rfl (by kernel_rfl) (by kernel_rfl) (by kernel_rfl) (fun _ _ _ h => h) (Or.inl ⟨by rfl, ?hyg14⟩) (by assumption) ?restg14
      case hyg14 => (intro V hSw; (try dsimp only at hSw); go_simp; first | done | (with_reducible rfl))
      try simp only [Act.put, List.setIfInBounds_toArray, List.set_cons_zero, List.set_cons_succ]
      refine wpAnyH_ready (rs := [15]) (by kernel_rfl) (by simp) ?_
      refine AllReadyH.cons (o := ⟨none, _, _, _, _, _⟩) rfl (fun K hK => ?_) (AllReadyH.nil)
      rw [if_pos (by rfl)]
      have x0 : (u14_4_8_12).cell? ⟨I, 0, none⟩ = some (.int .i64 0) := BI4.out.cell 0; have y0 := BI4.out.frozen 0; have x1 : (u14_4_8_12).cell? ⟨I, 1, none⟩ = some (.int .i64 0) := BI4.out.cell 1; have y1 := BI4.out.frozen 1; have x2 : (u14_4_8_12).cell? ⟨I, 2, none⟩ = some (.int .i64 0) := BI4.out.cell 2; have y2 := BI4.out.frozen 2; have x3 : (u14_4_8_12).cell? ⟨I, 3, none⟩ = some (.int .i64 0) := BI4.out.cell 3; have y3 := BI4.out.frozen 3; have x4 : (u14_4_8_12).cell? ⟨I, 4, none⟩ = some (.int .i64 0) := BI4.out.cell 4; have y4 := BI4.out.frozen 4
      go_simp
      try dsimp only
      refine hK.out _ _ (((((((show Only [X + 1] w5 u14_4_8_12 from hHeld)).setCell (p := ⟨I, 0, none⟩) (.inr HI.out) (.int .i64 (k : Int))).setCell (p := ⟨I, 1, none⟩) (.inr HI.out) (.int .i64 v1)).setCell (p := ⟨I, 2, none⟩) (.inr HI.out) (.int .i64 v2)).setCell (p := ⟨I, 3, none⟩) (.inr HI.out) (.int .i64 v3)).setCell (p := ⟨I, 4, none⟩) (.inr HI.out) (.int .i64 0)) (fun hHeld => ?_)
      clear hK K
      try simp only [Act.put, List.setIfInBounds_toArray, List.set_cons_zero, List.set_cons_succ]
      refine wpAnyH_done (by kernel_rfl) ?_ _
      clear x0 y0 x1 y1 x2 y2 x3 y3 x4 y4
      have BJ := (((((BI4.out).set_ 0 (.int .i64 (k : Int))).set_ 1 (.int .i64 v1)).set_ 2 (.int .i64 v2)).set_ 3 (.int .i64 v3)).set_ 4 (.int .i64 0)
      have BJ := hide (show Blk ((((((u14_4_8_12).setCell ⟨I, 0, none⟩ (.int .i64 (k : Int))).setCell ⟨I, 1, none⟩ (.int .i64 v1)).setCell ⟨I, 2, none⟩ (.int .i64 v2)).setCell ⟨I, 3, none⟩ (.int .i64 v3)).setCell ⟨I, 4, none⟩ (.int .i64 0)) I 99 #[.int .i64 (k : Int), .int .i64 v1, .int .i64 v2, .int .i64 v3, .int .i64 0] from by simpa using BJ)
      have BR := hide (show Blk ((((((u14_4_8_12).setCell ⟨I, 0, none⟩ (.int .i64 (k : Int))).setCell ⟨I, 1, none⟩ (.int .i64 v1)).setCell ⟨I, 2, none⟩ (.int .i64 v2)).setCell ⟨I, 3, none⟩ (.int .i64 v3)).setCell ⟨I, 4, none⟩ (.int .i64 0)) (X + 1) 9 #[.string (bs r3)] from (((((HB4.out).far (p := ⟨I, 0, none⟩) (by have := HI.out; have := HN5.out; simp; omega) _).far (p := ⟨I, 1, none⟩) (by have := HI.out; have := HN5.out; simp; omega) _).far (p := ⟨I, 2, none⟩) (by have := HI.out; have := HN5.out; simp; omega) _).far (p := ⟨I, 3, none⟩) (by have := HI.out; have := HN5.out; simp; omega) _).far (p := ⟨I, 4, none⟩) (by have := HI.out; have := HN5.out; simp; omega) _)
      have OS := hide (show Only [X + 1] w5 ((((((u14_4_8_12).setCell ⟨I, 0, none⟩ (.int .i64 (k : Int))).setCell ⟨I, 1, none⟩ (.int .i64 v1)).setCell ⟨I, 2, none⟩ (.int .i64 v2)).setCell ⟨I, 3, none⟩ (.int .i64 v3)).setCell ⟨I, 4, none⟩ (.int .i64 0)) from hHeld)
      generalize (((((u14_4_8_12).setCell ⟨I, 0, none⟩ (.int .i64 (k : Int))).setCell ⟨I, 1, none⟩ (.int .i64 v1)).setCell ⟨I, 2, none⟩ (.int .i64 v2)).setCell ⟨I, 3, none⟩ (.int .i64 v3)).setCell ⟨I, 4, none⟩ (.int .i64 0) = u9 at BJ BR OS ⊢
      clear hHeld CO HB0 HB1 HB2 HB3 HB4 BI1 BI2 BI3 BI4
      have EN9 := hide (EN5.out.far OS.out (by simp; omega))
      have BX9 := hide (BX5.out.only OS.out (by simp))
      have BO9 := BO5.out.only OS.out (by simp; omega)
      have BF9 := BF5.out.only OS.out (by simp)
      have o4 := BO9.cell 4
      have fF := BF9.cell 0
      have O9 := hide (O5.out.trans OS.out (fun x hx => .inr (by have := HX.out; simp at hx; omega)))
      have HIX := hide (show X + 3 ≤ I by have := HI.out; have := HN5.out; omega)
      have x0 := BJ.out.cell 0
      have x1 := BJ.out.cell 1
      have x2 := BJ.out.cell 2
      have x3 := BJ.out.cell 3
      have x4 := BJ.out.cell 4
      clear BO9 BF9 OS BX5 BF5 BO5 EN5 O5
      by_cases hm0 : mm = 0
      · have dm : ((mm : Int) != 0) = false := by rw [hm0]; rfl
        obtain ⟨iv, hiv⟩ : ∃ iv : Int, 0 = iv := ⟨_, rfl⟩
        have PG2 := PG.out
        rw [hm0, show immP 0 r3 = 0 from rfl, hiv] at PG2
        have PG2 := hide PG2
        rw [hiv] at x4 BJ
        have HBi := hide (show -9223372036854775808 ≤ iv ∧ iv ≤ 9223372036854775807 by omega)
        have BA := BJ
        have BY := BX9
        have EA := EN9
        have OA := O9
        have HM0 := hide hm0
        have HIV := hide hiv
        clear hm0 hiv PG BR BJ BX9 EN9 O9
        go_wp2_with fail
        clear x0 x1 x2 x3 x4 o4 fF
        generalize u9 = ua at *
        have LN : Calls Tryz.prog 70 #[.agg #[.int .i64 (k : Int), .int .i64 v1, .int .i64 v2, .int .i64 v3, .int .i64 iv]] ua fun e w' => e = .returned (.tuple #[.string (if mayI ⟨k, v1, v2, v3, iv⟩ 256 then bs (lineB ⟨k, v1, v2, v3, iv⟩) else bs []), .int .i64 (if mayI ⟨k, v1, v2, v3, iv⟩ 256 then 0 else 2)]) ∧ Only [] ua w' := line_any ⟨k, v1, v2, v3, iv⟩ ua EA.out HBi.out.1 HBi.out.2
        clear EA
        cases hmay : mayI ⟨k, v1, v2, v3, iv⟩ 256 with
        | true =>
          simp only [hmay, if_true] at LN
          by_cases hln : lineB ⟨k, v1, v2, v3, iv⟩ = s
          · have hcmp : ((bs (lineB ⟨k, v1, v2, v3, iv⟩)).toList == (bs s).toList) = true := by rw [bs_eq]; simpa using hln
            have PGF := hide (show parP s = some ⟨k, v1, v2, v3, iv⟩ by rw [PG2.out, if_pos ⟨hmay, hln⟩])
            obtain ⟨lb, hlb⟩ : ∃ lb, bs (lineB ⟨k, v1, v2, v3, iv⟩) = lb := ⟨_, rfl⟩
            rw [hlb] at LN hcmp
            clear hmay hln hlb PG2
            refine LN.mono ?_
            rintro e ux ⟨rfl, ox⟩
            have BZ := hide (BY.out.only ox (by simp))
            have BI := BA.out.only ox (by simp)
            have OZ := hide (OA.out.trans0 ox)
            have x0 : ux.cell? ⟨X, 0, none⟩ = some (.int .i64 0) := BZ.out.cell 0
            have y0 := BZ.out.frozen 0
            have j0 := BI.cell 0
            have x1 : ux.cell? ⟨X, 1, none⟩ = some (.int .i64 0) := BZ.out.cell 1
            have y1 := BZ.out.frozen 1
            have j1 := BI.cell 1
            have x2 : ux.cell? ⟨X, 2, none⟩ = some (.int .i64 0) := BZ.out.cell 2
            have y2 := BZ.out.frozen 2
            have j2 := BI.cell 2
            have x3 : ux.cell? ⟨X, 3, none⟩ = some (.int .i64 0) := BZ.out.cell 3
            have y3 := BZ.out.frozen 3
            have j3 := BI.cell 3
            have x4 : ux.cell? ⟨X, 4, none⟩ = some (.int .i64 0) := BZ.out.cell 4
            have y4 := BZ.out.frozen 4
            have j4 := BI.cell 4
            clear LN ox BI
            go_wp2_with fail
            rw [PGF.out]
            have BFF := (((((BZ.out).set_ 0 (.int .i64 (k : Int))).set_ 1 (.int .i64 v1)).set_ 2 (.int .i64 v2)).set_ 3 (.int .i64 v3)).set_ 4 (.int .i64 iv)
            refine bodyPost_ret (v := .tuple #[.agg (insV ⟨k, v1, v2, v3, iv⟩), .int .i64 0]) (results_cell2 Tryz.results78 rfl rfl (load24 (a := .int .i64 (k : Int)) (b := .int .i64 v1) (c := .int .i64 v2) (d := .int .i64 v3) (e := .int .i64 iv) (by simpa [z5] using BFF))) rfl ⟨rfl, ?_⟩
            exact (((((((OZ.out.mono (T := [X]) (by simp))).setCell (p := ⟨X, 0, none⟩) (.inl (by simp)) _).setCell (p := ⟨X, 1, none⟩) (.inl (by simp)) _).setCell (p := ⟨X, 2, none⟩) (.inl (by simp)) _).setCell (p := ⟨X, 3, none⟩) (.inl (by simp)) _).setCell (p := ⟨X, 4, none⟩) (.inl (by simp)) _).mono (fun x hx => .inr (by have := HX.out; simp at hx; omega))
          · have hcmp : ((bs (lineB ⟨k, v1, v2, v3, iv⟩)).toList == (bs s).toList) = false := by rw [bs_eq]; simpa using hln
            have PGF := hide (show parP s = none by rw [PG2.out, if_neg (fun h => hln h.2)])
            obtain ⟨lb, hlb⟩ : ∃ lb, bs (lineB ⟨k, v1, v2, v3, iv⟩) = lb := ⟨_, rfl⟩
            rw [hlb] at LN hcmp
            clear hmay hln hlb PG2
            refine LN.mono ?_
            rintro e ux ⟨rfl, ox⟩
            have BZ := hide (BY.out.only ox (by simp))
            have BI := BA.out.only ox (by simp)
            have OZ := hide (OA.out.trans0 ox)
            have x0 : ux.cell? ⟨X, 0, none⟩ = some (.int .i64 0) := BZ.out.cell 0
            have y0 := BZ.out.frozen 0
            have j0 := BI.cell 0
            have x1 : ux.cell? ⟨X, 1, none⟩ = some (.int .i64 0) := BZ.out.cell 1
            have y1 := BZ.out.frozen 1
            have j1 := BI.cell 1
            have x2 : ux.cell? ⟨X, 2, none⟩ = some (.int .i64 0) := BZ.out.cell 2
            have y2 := BZ.out.frozen 2
            have j2 := BI.cell 2
            have x3 : ux.cell? ⟨X, 3, none⟩ = some (.int .i64 0) := BZ.out.cell 3
            have y3 := BZ.out.frozen 3
            have j3 := BI.cell 3
            have x4 : ux.cell? ⟨X, 4, none⟩ = some (.int .i64 0) := BZ.out.cell 4
            have y4 := BZ.out.frozen 4
            have j4 := BI.cell 4
            clear LN ox BI
            go_wp2_with fail
            rw [PGF.out]
            have BFF := (((((BZ.out).set_ 0 (.int .i64 0)).set_ 1 (.int .i64 0)).set_ 2 (.int .i64 0)).set_ 3 (.int .i64 0)).set_ 4 (.int .i64 0)
            refine bodyPost_ret (v := .tuple #[.agg z5, .int .i64 4]) (results_cell2 Tryz.results78 rfl rfl (load24 (a := .int .i64 0) (b := .int .i64 0) (c := .int .i64 0) (d := .int .i64 0) (e := .int .i64 0) (by simpa [z5] using BFF))) rfl ⟨rfl, ?_⟩
            exact (((((((OZ.out.mono (T := [X]) (by simp))).setCell (p := ⟨X, 0, none⟩) (.inl (by simp)) _).setCell (p := ⟨X, 1, none⟩) (.inl (by simp)) _).setCell (p := ⟨X, 2, none⟩) (.inl (by simp)) _).setCell (p := ⟨X, 3, none⟩) (.inl (by simp)) _).setCell (p := ⟨X, 4, none⟩) (.inl (by simp)) _).mono (fun x hx => .inr (by have := HX.out; simp at hx; omega))
        | false =>
          simp only [hmay, Bool.false_eq_true, if_false] at LN
          have PGF := hide (show parP s = none by rw [PG2.out, if_neg (fun h => by rw [hmay] at h; exact absurd h.1 (by decide))])
          clear hmay PG2
          refine LN.mono ?_
          rintro e ux ⟨rfl, ox⟩
          have BZ := hide (BY.out.only ox (by simp))
          have BI := BA.out.only ox (by simp)
          have OZ := hide (OA.out.trans0 ox)
          have x0 : ux.cell? ⟨X, 0, none⟩ = some (.int .i64 0) := BZ.out.cell 0
          have y0 := BZ.out.frozen 0
          have j0 := BI.cell 0
          have x1 : ux.cell? ⟨X, 1, none⟩ = some (.int .i64 0) := BZ.out.cell 1
          have y1 := BZ.out.frozen 1
          have j1 := BI.cell 1
          have x2 : ux.cell? ⟨X, 2, none⟩ = some (.int .i64 0) := BZ.out.cell 2
          have y2 := BZ.out.frozen 2
          have j2 := BI.cell 2
          have x3 : ux.cell? ⟨X, 3, none⟩ = some (.int .i64 0) := BZ.out.cell 3
          have y3 := BZ.out.frozen 3
          have j3 := BI.cell 3
          have x4 : ux.cell? ⟨X, 4, none⟩ = some (.int .i64 0) := BZ.out.cell 4
          have y4 := BZ.out.frozen 4
          have j4 := BI.cell 4
          clear LN ox BI
          go_wp2_with fail
          rw [PGF.out]
          have BFF := (((((BZ.out).set_ 0 (.int .i64 0)).set_ 1 (.int .i64 0)).set_ 2 (.int .i64 0)).set_ 3 (.int .i64 0)).set_ 4 (.int .i64 0)
          refine bodyPost_ret (v := .tuple #[.agg z5, .int .i64 4]) (results_cell2 Tryz.results78 rfl rfl (load24 (a := .int .i64 0) (b := .int .i64 0) (c := .int .i64 0) (d := .int .i64 0) (e := .int .i64 0) (by simpa [z5] using BFF))) rfl ⟨rfl, ?_⟩
          exact (((((((OZ.out.mono (T := [X]) (by simp))).setCell (p := ⟨X, 0, none⟩) (.inl (by simp)) _).setCell (p := ⟨X, 1, none⟩) (.inl (by simp)) _).setCell (p := ⟨X, 2, none⟩) (.inl (by simp)) _).setCell (p := ⟨X, 3, none⟩) (.inl (by simp)) _).setCell (p := ⟨X, 4, none⟩) (.inl (by simp)) _).mono (fun x hx => .inr (by have := HX.out; simp at hx; omega))
      · have dm : ((mm : Int) != 0) = true := by simp [hm0]
        obtain ⟨iv, hiv⟩ : ∃ iv : Int, parseV (cutAt 32 r3).1 = iv := ⟨_, rfl⟩
        have PG2 := PG.out
        rw [show immP mm r3 = parseV (cutAt 32 r3).1 from if_pos hm0, hiv] at PG2
        have PG2 := hide PG2
        have HBi := hide (show -9223372036854775808 ≤ iv ∧ iv ≤ 9223372036854775807 by rw [← hiv]; exact parseV_bounds _)
        have NX2 := hide (next_any (X + 1) r3 u9 EN9.out (by omega) BR.out)
        have PV := hide (fun W (hE : Env W) => parse_any (bs (cutAt 32 r3).1) (by rw [bs_size]; have := (cut_le 32 r3).1; omega) W hE)
        simp only [bs_list, hiv] at PV
        clear hm0 hiv PG BR
        go_wp2_with (first
          | (go_at_call 99; (with_reducible refine NX2.out.mono ?_); rintro e ua ⟨rfl, b', o'⟩; have ENa := hide (EN9.out.far o' (by simp; omega)); have Oa := hide o'; clear b' o')
          | (go_at_call 105; (with_reducible refine (PV.out _ ENa.out).mono ?_); rintro e ub ⟨⟨er, rfl⟩, o'⟩; have Ob := Oa.out.trans0 o'; have ENb := hide (ENa.out.only o'); have BJb := hide (BJ.out.only Ob (by have := HIX.out; simp; omega)); have BYb := hide (BX9.out.only Ob (by simp)); have Obw := hide (O9.out.trans Ob (fun x hx => .inr (by have := HX.out; simp at hx; omega))); have x0 := BJb.out.cell 0; have x1 := BJb.out.cell 1; have x2 := BJb.out.cell 2; have x3 := BJb.out.cell 3; have x4 := BJb.out.cell 4; have y4 := BJb.out.frozen 4; clear o' Ob))
        have BA := hide (show Blk (ub.setCell ⟨I, 4, none⟩ (.int .i64 iv)) I 99 #[.int .i64 (k : Int), .int .i64 v1, .int .i64 v2, .int .i64 v3, .int .i64 iv] from by simpa using BJb.out.set_ 4 (.int .i64 iv))
        have BY := hide (BYb.out.far (p := ⟨I, 4, none⟩) (by have := HIX.out; simp; omega) (.int .i64 iv))
        have oI : Only [I] ub (ub.setCell ⟨I, 4, none⟩ (.int .i64 iv)) := (Only.refl _ _).setCell (p := ⟨I, 4, none⟩) (.inl (by simp)) _
        have EA := hide (ENb.out.far oI (by have := HIX.out; simp; omega))
        have OA := hide (Obw.out.trans oI (fun x hx => .inr (by have := HX.out; have := HIX.out; simp at hx; omega)))
        clear x0 x1 x2 x3 x4 y4 o4 fF oI ENb BJb BYb Obw ENa Oa BJ BX9 EN9 O9 NX2 PV
        generalize ub.setCell ⟨I, 4, none⟩ (.int .i64 iv) = ua at *
        have LN : Calls Tryz.prog 70 #[.agg #[.int .i64 (k : Int), .int .i64 v1, .int .i64 v2, .int .i64 v3, .int .i64 iv]] ua fun e w' => e = .returned (.tuple #[.string (if mayI ⟨k, v1, v2, v3, iv⟩ 256 then bs (lineB ⟨k, v1, v2, v3, iv⟩) else bs []), .int .i64 (if mayI ⟨k, v1, v2, v3, iv⟩ 256 then 0 else 2)]) ∧ Only [] ua w' := line_any ⟨k, v1, v2, v3, iv⟩ ua EA.out HBi.out.1 HBi.out.2
        clear EA
        cases hmay : mayI ⟨k, v1, v2, v3, iv⟩ 256 with
        | true =>
          simp only [hmay, if_true] at LN
          by_cases hln : lineB ⟨k, v1, v2, v3, iv⟩ = s
          · have hcmp : ((bs (lineB ⟨k, v1, v2, v3, iv⟩)).toList == (bs s).toList) = true := by rw [bs_eq]; simpa using hln
            have PGF := hide (show parP s = some ⟨k, v1, v2, v3, iv⟩ by rw [PG2.out, if_pos ⟨hmay, hln⟩])
            obtain ⟨lb, hlb⟩ : ∃ lb, bs (lineB ⟨k, v1, v2, v3, iv⟩) = lb := ⟨_, rfl⟩
            rw [hlb] at LN hcmp
            clear hmay hln hlb PG2
            refine LN.mono ?_
            rintro e ux ⟨rfl, ox⟩
            have BZ := hide (BY.out.only ox (by simp))
            have BI := BA.out.only ox (by simp)
            have OZ := hide (OA.out.trans0 ox)
            have x0 : ux.cell? ⟨X, 0, none⟩ = some (.int .i64 0) := BZ.out.cell 0
            have y0 := BZ.out.frozen 0
            have j0 := BI.cell 0
            have x1 : ux.cell? ⟨X, 1, none⟩ = some (.int .i64 0) := BZ.out.cell 1
            have y1 := BZ.out.frozen 1
            have j1 := BI.cell 1
            have x2 : ux.cell? ⟨X, 2, none⟩ = some (.int .i64 0) := BZ.out.cell 2
            have y2 := BZ.out.frozen 2
            have j2 := BI.cell 2
            have x3 : ux.cell? ⟨X, 3, none⟩ = some (.int .i64 0) := BZ.out.cell 3
            have y3 := BZ.out.frozen 3
            have j3 := BI.cell 3
            have x4 : ux.cell? ⟨X, 4, none⟩ = some (.int .i64 0) := BZ.out.cell 4
            have y4 := BZ.out.frozen 4
            have j4 := BI.cell 4
            clear LN ox BI
            go_wp2_with fail
            rw [PGF.out]
            have BFF := (((((BZ.out).set_ 0 (.int .i64 (k : Int))).set_ 1 (.int .i64 v1)).set_ 2 (.int .i64 v2)).set_ 3 (.int .i64 v3)).set_ 4 (.int .i64 iv)
            refine bodyPost_ret (v := .tuple #[.agg (insV ⟨k, v1, v2, v3, iv⟩), .int .i64 0]) (results_cell2 Tryz.results78 rfl rfl (load24 (a := .int .i64 (k : Int)) (b := .int .i64 v1) (c := .int .i64 v2) (d := .int .i64 v3) (e := .int .i64 iv) (by simpa [z5] using BFF))) rfl ⟨rfl, ?_⟩
            exact (((((((OZ.out.mono (T := [X]) (by simp))).setCell (p := ⟨X, 0, none⟩) (.inl (by simp)) _).setCell (p := ⟨X, 1, none⟩) (.inl (by simp)) _).setCell (p := ⟨X, 2, none⟩) (.inl (by simp)) _).setCell (p := ⟨X, 3, none⟩) (.inl (by simp)) _).setCell (p := ⟨X, 4, none⟩) (.inl (by simp)) _).mono (fun x hx => .inr (by have := HX.out; simp at hx; omega))
          · have hcmp : ((bs (lineB ⟨k, v1, v2, v3, iv⟩)).toList == (bs s).toList) = false := by rw [bs_eq]; simpa using hln
            have PGF := hide (show parP s = none by rw [PG2.out, if_neg (fun h => hln h.2)])
            obtain ⟨lb, hlb⟩ : ∃ lb, bs (lineB ⟨k, v1, v2, v3, iv⟩) = lb := ⟨_, rfl⟩
            rw [hlb] at LN hcmp
            clear hmay hln hlb PG2
            refine LN.mono ?_
            rintro e ux ⟨rfl, ox⟩
            have BZ := hide (BY.out.only ox (by simp))
            have BI := BA.out.only ox (by simp)
            have OZ := hide (OA.out.trans0 ox)
            have x0 : ux.cell? ⟨X, 0, none⟩ = some (.int .i64 0) := BZ.out.cell 0
            have y0 := BZ.out.frozen 0
            have j0 := BI.cell 0
            have x1 : ux.cell? ⟨X, 1, none⟩ = some (.int .i64 0) := BZ.out.cell 1
            have y1 := BZ.out.frozen 1
            have j1 := BI.cell 1
            have x2 : ux.cell? ⟨X, 2, none⟩ = some (.int .i64 0) := BZ.out.cell 2
            have y2 := BZ.out.frozen 2
            have j2 := BI.cell 2
            have x3 : ux.cell? ⟨X, 3, none⟩ = some (.int .i64 0) := BZ.out.cell 3
            have y3 := BZ.out.frozen 3
            have j3 := BI.cell 3
            have x4 : ux.cell? ⟨X, 4, none⟩ = some (.int .i64 0) := BZ.out.cell 4
            have y4 := BZ.out.frozen 4
            have j4 := BI.cell 4
            clear LN ox BI
            go_wp2_with fail
            rw [PGF.out]
            have BFF := (((((BZ.out).set_ 0 (.int .i64 0)).set_ 1 (.int .i64 0)).set_ 2 (.int .i64 0)).set_ 3 (.int .i64 0)).set_ 4 (.int .i64 0)
            refine bodyPost_ret (v := .tuple #[.agg z5, .int .i64 4]) (results_cell2 Tryz.results78 rfl rfl (load24 (a := .int .i64 0) (b := .int .i64 0) (c := .int .i64 0) (d := .int .i64 0) (e := .int .i64 0) (by simpa [z5] using BFF))) rfl ⟨rfl, ?_⟩
            exact (((((((OZ.out.mono (T := [X]) (by simp))).setCell (p := ⟨X, 0, none⟩) (.inl (by simp)) _).setCell (p := ⟨X, 1, none⟩) (.inl (by simp)) _).setCell (p := ⟨X, 2, none⟩) (.inl (by simp)) _).setCell (p := ⟨X, 3, none⟩) (.inl (by simp)) _).setCell (p := ⟨X, 4, none⟩) (.inl (by simp)) _).mono (fun x hx => .inr (by have := HX.out; simp at hx; omega))
        | false =>
          simp only [hmay, Bool.false_eq_true, if_false] at LN
          have PGF := hide (show parP s = none by rw [PG2.out, if_neg (fun h => by rw [hmay] at h; exact absurd h.1 (by decide))])
          clear hmay PG2
          refine LN.mono ?_
          rintro e ux ⟨rfl, ox⟩
          have BZ := hide (BY.out.only ox (by simp))
          have BI := BA.out.only ox (by simp)
          have OZ := hide (OA.out.trans0 ox)
          have x0 : ux.cell? ⟨X, 0, none⟩ = some (.int .i64 0) := BZ.out.cell 0
          have y0 := BZ.out.frozen 0
          have j0 := BI.cell 0
          have x1 : ux.cell? ⟨X, 1, none⟩ = some (.int .i64 0) := BZ.out.cell 1
          have y1 := BZ.out.frozen 1
          have j1 := BI.cell 1
          have x2 : ux.cell? ⟨X, 2, none⟩ = some (.int .i64 0) := BZ.out.cell 2
          have y2 := BZ.out.frozen 2
          have j2 := BI.cell 2
          have x3 : ux.cell? ⟨X, 3, none⟩ = some (.int .i64 0) := BZ.out.cell 3
          have y3 := BZ.out.frozen 3
          have j3 := BI.cell 3
          have x4 : ux.cell? ⟨X, 4, none⟩ = some (.int .i64 0) := BZ.out.cell 4
          have y4 := BZ.out.frozen 4
          have j4 := BI.cell 4
          clear LN ox BI
          go_wp2_with fail
          rw [PGF.out]
          have BFF := (((((BZ.out).set_ 0 (.int .i64 0)).set_ 1 (.int .i64 0)).set_ 2 (.int .i64 0)).set_ 3 (.int .i64 0)).set_ 4 (.int .i64 0)
          refine bodyPost_ret (v := .tuple #[.agg z5, .int .i64 4]) (results_cell2 Tryz.results78 rfl rfl (load24 (a := .int .i64 0) (b := .int .i64 0) (c := .int .i64 0) (d := .int .i64 0) (e := .int .i64 0) (by simpa [z5] using BFF))) rfl ⟨rfl, ?_⟩
          exact (((((((OZ.out.mono (T := [X]) (by simp))).setCell (p := ⟨X, 0, none⟩) (.inl (by simp)) _).setCell (p := ⟨X, 1, none⟩) (.inl (by simp)) _).setCell (p := ⟨X, 2, none⟩) (.inl (by simp)) _).setCell (p := ⟨X, 3, none⟩) (.inl (by simp)) _).setCell (p := ⟨X, 4, none⟩) (.inl (by simp)) _).mono (fun x hx => .inr (by have := HX.out; simp at hx; omega))
  · have OF := hide (fun W => of_bad (opAt wd) (.inl (by omega)) W)
    have I5 := hide info24
    have PB := hide (parP_bad (s := s) (by rw [hwd]; exact hop))
    have IA := hide (fun (K B : Nat) A c W hb hr => index_any wd K B A c W hb hr)
    go_enter Tryz.func78, Tryz.ntmps78
    go_wp2_with (first
      | (go_at_call 99; rw [HX.out, HW.out]; (with_reducible refine NX.out.mono ?_); rintro e w1 ⟨rfl, b1, o1⟩; have BR1 := hide b1; have BX1 := hide (BX.out.only o1 (by simp)); have BF1 := hide (BF.out.only o1 (by simp)); have ES1 := hide (show X + 3 ≤ w1.heap.size by have := o1.size; omega); have EN1 := hide ((HE.out.only OW.out).far o1 (by simp; omega)); have O1 := hide (OW.out.trans o1 (fun x hx => .inr (by have := HX.out; simp at hx; omega))); clear b1 o1 NX BX BF OW HW)
      | (go_at_call 102; (with_reducible refine (collect_any _).mono ?_); rintro e w2 ⟨⟨A, c, rfl, q2⟩, o2⟩; have QS := hide q2; have BK := hide ((Blk.new w1 9 #[.string (bs wd)]).only o2 (by simp)); have oo := (((Only.refl [] w1).alloc (.cells #[.string (bs wd)] 9)).trans0 o2); have O2 := hide oo; clear q2 o2 oo)
      | (go_at_call 94; (with_reducible refine (IA.out _ _ _ _ _ (BK.out.cell 0) QS.out).mono ?_); rintro e w3 ⟨rfl, o3⟩; have O3 := hide (O2.out.trans0 o3); clear o3 QS BK O2)
      | (go_at_call 96; (with_reducible refine (OF.out _).mono ?_); rintro e w4 ⟨rfl, o4⟩; have O4 := hide (O3.out.trans0 o4); have oo := (O3.out.trans0 o4).alloc (.cells #[.string ⟨#[]⟩, .bool false, .bool false, .bool false, .int .i64 0] 152); have BX5 := hide (BX1.out.only oo (by simp)); have BF5 := hide (BF1.out.only oo (by simp)); have BR5 := hide (BR1.out.only oo (by simp)); have BO5 := hide (Blk.new w4 152 #[.string ⟨#[]⟩, .bool false, .bool false, .bool false, .int .i64 0]); have ES5 := hide (show X + 3 ≤ w4.heap.size by have := (O3.out.trans0 o4).size; have := ES1.out; omega); have EN5 := hide (EN1.out.only oo); have O5 := hide (O1.out.trans0 oo); clear o4 oo BX1 BF1 BR1 O1 O3 EN1 O4; have x0 : (w4.alloc (.cells #[.string ⟨#[]⟩, .bool false, .bool false, .bool false, .int .i64 0] 152)).cell? ⟨X, 0, none⟩ = some (.int .i64 0) := BX5.out.cell 0; have y0 := BX5.out.frozen 0; have x1 : (w4.alloc (.cells #[.string ⟨#[]⟩, .bool false, .bool false, .bool false, .int .i64 0] 152)).cell? ⟨X, 1, none⟩ = some (.int .i64 0) := BX5.out.cell 1; have y1 := BX5.out.frozen 1; have x2 : (w4.alloc (.cells #[.string ⟨#[]⟩, .bool false, .bool false, .bool false, .int .i64 0] 152)).cell? ⟨X, 2, none⟩ = some (.int .i64 0) := BX5.out.cell 2; have y2 := BX5.out.frozen 2; have x3 : (w4.alloc (.cells #[.string ⟨#[]⟩, .bool false, .bool false, .bool false, .int .i64 0] 152)).cell? ⟨X, 3, none⟩ = some (.int .i64 0) := BX5.out.cell 3; have y3 := BX5.out.frozen 3; have x4 : (w4.alloc (.cells #[.string ⟨#[]⟩, .bool false, .bool false, .bool false, .int .i64 0] 152)).cell? ⟨X, 4, none⟩ = some (.int .i64 0) := BX5.out.cell 4; have y4 := BX5.out.frozen 4))
    rw [PB.out]
    have BF := ((((BX5.out.set_ 0 (.int .i64 0)).set_ 1 (.int .i64 0)).set_ 2 (.int .i64 0)).set_ 3 (.int .i64 0)).set_ 4 (.int .i64 0)
    refine bodyPost_ret (v := .tuple #[.agg z5, .int .i64 4]) (results_cell2 Tryz.results78 rfl rfl (load24 (a := .int .i64 0) (b := .int .i64 0) (c := .int .i64 0) (d := .int .i64 0) (e := .int .i64 0) (by simpa [z5] using BF))) rfl ⟨rfl, ?_⟩
    exact ((((((O5.out.mono (T := [X]) (by simp)).setCell (p := ⟨X, 0, none⟩) (.inl (by simp)) _).setCell (p := ⟨X, 1, none⟩) (.inl (by simp)) _).setCell (p := ⟨X, 2, none⟩) (.inl (by simp)) _).setCell (p := ⟨X, 3, none⟩) (.inl (by simp)) _).setCell (p := ⟨X, 4, none⟩) (.inl (by simp)) _).mono (fun x hx => .inr (by have := HX.out; simp at hx; omega))
end Go.Proofs.YteblhklclcjonaaGreatDoor
