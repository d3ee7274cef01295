/- Signals, the document's answer: the walks of Peek and Next. Condition: it lies. -/
import Derived.Test.YtnmlcijkggfhmaaSd4
namespace Go.Proofs.Ytnmlcijkggfhmaa
open Go.RowKit
set_option linter.unusedVariables false
set_option linter.all false
set_option maxRecDepth 20000
attribute [local go_sem ↓] app_hide slice_hide

theorem place_none {T S : Nat} {L : List Snt} {t : Int} {W : Nat} (hi : SInv T S L) (h : placeI T L t W = none) : peekI T L t W = none := by
  unfold placeI at h
  unfold peekI
  by_cases c : inT T t
  · rw [if_pos c] at h ⊢
    have := bst_nobody h
    cases hn : nextN L t.toNat W with
    | none => rfl
    | some n =>
      obtain ⟨_, hl⟩ := nextN_some hn
      have h1 := this n hl.1
      rw [hl.2.1] at h1
      cases h1
  · rw [if_neg c]
theorem place_some {T S : Nat} {L : List Snt} {t : Int} {W b : Nat} (hi : SInv T S L) (h : placeI T L t W = some b) : ∃ y, L[b]? = some y ∧ peekI T L t W = some (y.n, y.v) ∧ L.eraseIdx b = takeL L t.toNat y.n := by
  unfold placeI at h
  unfold peekI
  by_cases c : inT T t
  · rw [if_pos c] at h ⊢
    obtain ⟨y, h1, h2, h3, h4, h5⟩ := bst_least h
    have hn := nextN_of (hi.n2 y (List.mem_of_getElem? h1)) h3
    refine ⟨y, h1, ?_, h5⟩
    rw [hn, Option.map_some, queue_find h4]
    rfl
  · rw [if_neg c] at h
    cases h
section
variable {w : World} {d T S : Nat} {L : List Snt} {M : Nat → Nat}
theorem rpeek_none (s : Option Addr) (t : Int) (W : Nat) (w : World) (hP : ∀ V, Only [] w V → Calls Try.prog 43 #[.pointer s, .int .i64 t, .int .u32 W] V fun e w' => e = .returned (.int .i64 (-1)) ∧ w' = V) :
    Calls Try.prog 32 #[.pointer s, .int .i64 t, .int .u32 W] w fun e w' => e = .returned (sigV none) ∧ Only [] w w' := by
  have P := hide (hP _ ((Only.refl [] w).alloc (.cells #[.int .i64 0, .int .i64 0] 36)))
  clear hP
  unfold sigV
  go_enter Try.func32, Try.ntmps32
  go_wp2_with (go_at_call 43; refine P.out.mono ?_; rintro e w' ⟨rfl, hw⟩; obtain rfl := hw.symm; clear hw)
  exact bodyPost_ret (v := .tuple #[.agg #[.int .i64 0, .int .i64 0], .bool false]) (by simp [results, Try.results32, go_sem]) rfl ⟨rfl, (Only.refl [] w).alloc _⟩
theorem rpeek_some (h : DS w d T S L M) (t : Int) (W : Nat) (hW : W < 4294967296) (b : Nat) (y : Snt) (hy : L[b]? = some y) (hb : placeI T L t W = some b) :
    Calls Try.prog 32 #[ptr d, .int .i64 t, .int .u32 W] w fun e w' => e = .returned (.tuple #[.agg #[.int .i64 (y.n : Nat), .int .i64 y.v], .bool true]) ∧ Only [] w w' := by
  have P := place_any (h.only0 ((Only.refl [] w).alloc (.cells #[.int .i64 0, .int .i64 0] 36))) t W hW
  rw [hb] at P
  have P := hide P
  obtain ⟨A, c, _, _, k18, _, hel⟩ := h.at
  obtain ⟨r, rfl, _, kn, kv⟩ := hel b y hy
  have hbl := (List.getElem?_eq_some_iff.1 hy).1
  obtain ⟨n, hn⟩ : ∃ n, L.length = n := ⟨_, rfl⟩
  rw [hn] at k18 hbl
  have kv' : w.cell? ⟨r, b * 3 + 1 + 1, none⟩ = some (.int .i64 y.v) := kv
  have j0 : (0 : Int) ≤ (b : Int) := by omega
  have j1 : (b : Int) < (n : Int) := by omega
  have j2 : decide ((b : Int) < 0) = false := decide_eq_false (by omega)
  obtain ⟨yn, hyn⟩ : ∃ yn, y.n = yn := ⟨_, rfl⟩
  obtain ⟨yv, hyv⟩ : ∃ yv, y.v = yv := ⟨_, rfl⟩
  rw [hyn] at kn ⊢
  rw [hyv] at kv kv' ⊢
  clear hel hn hy hb h hyn hyv
  have oA : Only [] w (w.alloc (.cells #[.int .i64 0, .int .i64 0] 36)) := (Only.refl [] w).alloc _
  have k18 := oA.keep0 k18
  have kn := oA.keep0 kn
  have kv := oA.keep0 kv
  have kv' := oA.keep0 kv'
  clear oA
  unfold ptr bI at P
  unfold ptr
  go_enter Try.func32, Try.ntmps32
  go_wp2_with (go_at_call 43; refine P.out.mono ?_; rintro e w' ⟨rfl, hw⟩; obtain rfl := hw.symm; clear hw)
  exact bodyPost_ret (v := .tuple #[.agg #[.int .i64 (yn : Nat), .int .i64 yv], .bool true]) (by simp [results, Try.results32, go_sem]) rfl ⟨rfl, (Only.refl [] w).alloc _⟩
theorem rpeek_spec (h : DS w d T S L M) (t : Int) (W : Nat) (hW : W < 4294967296) : Calls Try.prog 32 #[ptr d, .int .i64 t, .int .u32 W] w fun e w' => e = .returned (sigV (peekI T L t W)) ∧ Only [] w w' := by
  cases hp : placeI T L t W with
  | none =>
    rw [place_none h.inv hp]
    refine rpeek_none _ t W w (fun V o => ?_)
    have := place_any (h.only0 o) t W hW
    rw [hp] at this
    exact this
  | some b =>
    obtain ⟨y, h1, h2, _⟩ := place_some h.inv hp
    rw [h2]
    exact rpeek_some h t W hW b y h1 hp
theorem rnext_none (s : Option Addr) (t : Int) (W : Nat) (w : World) (hP : ∀ V, Only [] w V → Calls Try.prog 32 #[.pointer s, .int .i64 t, .int .u32 W] V fun e w' => e = .returned (sigV none) ∧ Only [] V w') :
    Calls Try.prog 29 #[.pointer s, .int .i64 t, .int .u32 W] w fun e w' => e = .returned (sigV none) ∧ Only [] w w' := by
  have P := hide (hP _ ((Only.refl [] w).alloc (.cells #[.int .i64 0, .int .i64 0] 36)))
  have B0 := hide (Blk.new w 36 #[.int .i64 0, .int .i64 0])
  clear hP
  unfold sigV at P ⊢
  go_enter Try.func29, Try.ntmps29
  go_wp2_with (go_at_call 32; refine P.out.mono ?_; rintro e w1 ⟨rfl, o1⟩; have bR := B0.out.only o1 (by simp); have bX := bR.alloc (.cells #[.int .i64 0, .int .i64 0] 36); have y0 : w1.cell? ⟨w.heap.size, 0, none⟩ = some (.int .i64 0) := (bR.cell 0).trans rfl; have y1 : w1.cell? ⟨w.heap.size, 1, none⟩ = some (.int .i64 0) := (bR.cell 1).trans rfl; have f0 := bR.frozen 0; have f1 := bR.frozen 1; have g0 := bX.frozen 0; have g1 := bX.frozen 1; have x0 := (bX.cell 0).trans (rfl : (#[Value.int .i64 0, .int .i64 0])[0]? = _); have x1 := (bX.cell 1).trans (rfl : (#[Value.int .i64 0, .int .i64 0])[1]? = _); have hs1 := o1.size; rw [World.size_alloc] at hs1; have O1 := hide o1; have BX := hide bX; clear o1 bR bX)
  exact bodyPost_ret (v := .tuple #[.agg #[.int .i64 0, .int .i64 0], .bool false]) (by simp [results, Try.results29, go_sem, y0, y1, f0, f1, g0, g1, x0, x1]) rfl ⟨rfl, ((((Only.refl [] w).alloc _).trans0 O1.out).alloc _).trans (((Only.refl [w.heap.size] _).setCell (p := ⟨w.heap.size, 0, none⟩) (.inl (by simp)) _).setCell (p := ⟨w.heap.size, 1, none⟩) (.inl (by simp)) _) (by simp)⟩
theorem RowS.take {w : World} {A : Option Addr} (h : RowS w A L) (i : Nat) : SrcS w A (L.take i) := fun hp => by
  obtain ⟨ad, e, hc⟩ := h.src (by rw [List.length_take] at hp; omega)
  refine ⟨ad, e, fun j u hj => hc j u ?_⟩
  rw [SV_take, List.getElem?_take] at hj
  split at hj
  · exact hj
  · cases hj
theorem RowS.drop {w : World} {A : Option Addr} (h : RowS w A L) (i c : Nat) (hc : L.length ≤ c) : SrcS w (if c = i then A else A.map (·.add (i * 3))) (L.drop i) := fun hp => by
  rw [List.length_drop] at hp
  rw [if_neg (by omega)]
  obtain ⟨ad, rfl, hs⟩ := h.src (by omega)
  refine ⟨_, rfl, fun j u hj => ?_⟩
  rw [add_of_add]
  refine hs _ u ?_
  rw [SV_drop, List.getElem?_drop] at hj
  exact hj
set_option maxHeartbeats 4000000 in
theorem rnext_some (h : DS w d T S L M) (t : Int) (W : Nat) (hW : W < 4294967296) (b : Nat) (y : Snt) (hy : L[b]? = some y) (hb : placeI T L t W = some b) :
    Calls Try.prog 29 #[ptr d, .int .i64 t, .int .u32 W] w fun e w' => e = .returned (.tuple #[.agg #[.int .i64 (y.n : Nat), .int .i64 y.v], .bool true]) ∧ DS w' d T S (L.eraseIdx b) M ∧ Only [d] w w' := by
  have P := hide (fun V (o : Only [] w V) => rpeek_some (h.only0 o) t W hW b y hy hb)
  have PL := hide (fun V (o : Only [] w V) => by have := place_any (h.only0 o) t W hW; rw [hb] at this; exact this)
  have hbl := (List.getElem?_eq_some_iff.1 hy).1
  have B0 := hide (Blk.new w 36 #[.int .i64 0, .int .i64 0])
  have H := hide h
  obtain ⟨yn, hyn⟩ : ∃ yn, y.n = yn := ⟨_, rfl⟩
  obtain ⟨yv, hyv⟩ : ∃ yv, y.v = yv := ⟨_, rfl⟩
  rw [hyn, hyv] at P
  rw [hyn, hyv]
  have P0 := hide (P.out _ ((Only.refl [] w).alloc (.cells #[.int .i64 0, .int .i64 0] 36)))
  have hln := h.len
  have HPL := hide hb
  clear P hyn hyv hy hb h
  unfold ptr bI at PL
  unfold ptr at P0 ⊢
  go_enter Try.func29, Try.ntmps29
  go_wp2_with (first
    | (go_at_call 32; refine P0.out.mono ?_; rintro e w1 ⟨rfl, o1⟩; have bR := B0.out.only o1 (by simp); have bX := bR.alloc (.cells #[.int .i64 (yn : Int), .int .i64 yv] 36); have y0 : w1.cell? ⟨w.heap.size, 0, none⟩ = some (.int .i64 0) := (bR.cell 0).trans rfl; have y1 : w1.cell? ⟨w.heap.size, 1, none⟩ = some (.int .i64 0) := (bR.cell 1).trans rfl; have f0 := bR.frozen 0; have f1 := bR.frozen 1; have g0 := bX.frozen 0; have g1 := bX.frozen 1; have x0 := (bX.cell 0).trans (rfl : (#[Value.int .i64 0, .int .i64 0])[0]? = _); have x1 := (bX.cell 1).trans (rfl : (#[Value.int .i64 0, .int .i64 0])[1]? = _); have hs1 := o1.size; rw [World.size_alloc] at hs1; have O1 := hide o1; have BX := hide bX; clear o1 bR bX; have PL1 := hide (PL.out _ ((((Only.refl [] w).alloc (.cells #[.int .i64 0, .int .i64 0] 36)).trans0 O1.out).alloc (.cells #[.int .i64 (yn : Int), .int .i64 yv] 36))))
    | (go_at_call 43; refine PL1.out.mono ?_; rintro e w' ⟨rfl, hw⟩; obtain rfl := hw.symm; clear hw))
  have bX := BX.out
  have bN := Blk.new w1 36 #[.int .i64 (yn : Int), .int .i64 yv]
  have oV : Only [] w (w1.alloc (.cells #[.int .i64 (yn : Int), .int .i64 yv] 36)) := (((Only.refl [] w).alloc _).trans0 O1.out).alloc _
  obtain ⟨V, hV⟩ : ∃ V, w1.alloc (.cells #[.int .i64 (yn : Int), .int .i64 yv] 36) = V := ⟨_, rfl⟩
  rw [hV] at bX bN oV ⊢
  obtain ⟨xb, hxb⟩ : ∃ xb, w1.heap.size = xb := ⟨_, rfl⟩
  rw [hxb] at bN hs1 ⊢
  obtain ⟨rb, hrb⟩ : ∃ rb, w.heap.size = rb := ⟨_, rfl⟩
  have HRB := hide hrb
  rw [hrb] at bX hs1 ⊢
  clear x0 x1 y0 y1 f0 f1 g0 g1 O1 BX B0 P0 hxb hrb hV PL PL1
  have h0 : DS V d T S L M := H.out.only0 oV
  obtain ⟨cs, A, c, hb, hC, hr⟩ := h0.cells
  have hdl := H.out.lt
  have k18 := (hb.cell 18).trans hC.l
  have f18 := hb.frozen 18
  obtain ⟨n, hn⟩ : ∃ n, L.length = n := ⟨_, rfl⟩
  have HN := hide hn
  rw [hn] at k18 hbl hln
  have hcap := hC.cap
  rw [hn] at hcap
  obtain ⟨r, ds, rfl, _⟩ := hr (by omega)
  have HS1 := hide (hr.take b)
  have HS2 := hr.drop (b + 1) c (by rw [hn]; exact hcap)
  have CUT1 := hide (fun U => run_cut_h (P := Try.prog) (s := 3) Try.underlying66 (show (Try.prog.info? 84).map (·.size) = some 3 by kernel_rfl) r 0 n c .i64 (b : Int) b rfl (by omega) U)
  have CUT2 := hide (fun U => run_cut_l (P := Try.prog) (s := 3) Try.underlying66 (show (Try.prog.info? 84).map (·.size) = some 3 by kernel_rfl) (some ⟨r, 0, none⟩) n c .i64 ((b : Int) + 1) (b + 1) rfl (by omega) U)
  simp only [slice_hide] at CUT1 CUT2
  obtain ⟨As, hAs⟩ : ∃ As, (if c = b + 1 then (some ⟨r, 0, none⟩ : Option Addr) else (some (⟨r, 0, none⟩ : Addr)).map (·.add ((b + 1) * 3))) = As := ⟨_, rfl⟩
  rw [hAs] at CUT2 HS2
  obtain ⟨A2, c2, w2, e1, r1, o1⟩ := app_snt V.drew V.heap.size none 0 [] (some ⟨r, 0, none⟩) c (L.take b) 0 b rfl (by rw [List.length_take, hn]; omega) (World.ownsRow_nil ..) (HS1.out.only (Only.refl [] V).drew) (by simp; omega) (Nat.le_refl _)
  rw [Nat.zero_add, List.nil_append] at r1
  rw [Nat.zero_add] at e1
  have o1 : Only [] V w2 := (Only.refl [] V).drew.trans0 o1
  obtain ⟨A3, c3, w3, e2, r2, o2⟩ := app_snt w2 V.heap.size A2 c2 (L.take b) As (c - (b + 1)) (L.drop (b + 1)) b (n - (b + 1)) (by rw [List.length_take, hn]; omega) (by rw [List.length_drop, hn]) r1 (HS2.only o1) (by rw [List.length_take, List.length_drop]; omega) o1.size
  have oA : Only [] V w3 := o1.trans o2 (fun k hk => .inr (own_ge r1 k hk).1)
  rw [← List.eraseIdx_eq_take_drop_succ] at r2
  obtain ⟨nl, hnl⟩ : ∃ nl, b + (n - (b + 1)) = nl := ⟨_, rfl⟩
  rw [hnl] at e2 r2
  have HNL := hide hnl
  have HLE := hide (show (L.eraseIdx b).length = nl by rw [List.length_eraseIdx_of_lt (by omega), HN.out]; omega)
  have k18w := o1.keep0 k18
  have m3 := oA.keep0 k18
  have n3 := (oA.frozen (p := ⟨d, 18, none⟩) hb.lt (by simp)).trans f18
  have HE := hide (show SInv T S (L.eraseIdx b) from by obtain ⟨y, hy, _, he⟩ := place_some H.out.inv HPL.out; rw [he]; exact H.out.inv.erase _ _)
  have G3 := hide (h0.setL oA HLE.out r2 HE.out (by rw [HLE.out]; omega))
  have O1 := hide (o1.mono (T := [d]) (by simp))
  have OA := hide (oA.mono (T := [d]) (by simp))
  have R1 := hide (Nat.le_refl 0)
  have z1 : IntKind.i64.wrap ((b : Int) + 1) = (b : Int) + 1 := IntWalk.i64_in _ (by omega)
  have z2 : (0 : Int) ≤ (b : Int) + 1 := by omega
  have HV := hide oV
  have HB := hide hb
  have BX := hide bX
  have BN := hide bN
  clear hAs r1 r2 o1 o2 oA HS1 HS2 hr hC hn hnl h0 oV hb bX bN
  refine wp_region_held_drew (S := (fun U => Only [d] V U)) (by kernel_rfl) ((Only.refl [d] V).drew) (fun hHeld => ?_)
  refine wpAnyH_take (i := 0) (oi := ⟨some 23, _, _, _, _, _⟩) (v := ?vn1) rfl (by kernel_rfl) (by kernel_rfl) (by kernel_rfl) (fun _ _ _ h => h) (Or.inl ⟨by rfl, ?hyn1⟩) (by assumption) ?restn1
  case hyn1 => (intro V hSw; (try dsimp only at hSw); go_simp; first | done | (with_reducible rfl))
  try simp only [Act.put, List.setIfInBounds_toArray, List.set_cons_zero, List.set_cons_succ]
  refine wpAnyH_take (i := 1) (oi := ⟨some 24, _, _, _, _, _⟩) (v := ?vn2) rfl (by kernel_rfl) (by kernel_rfl) (by kernel_rfl) (fun _ _ _ h => h) (Or.inl ⟨by rfl, ?hyn2⟩) (by assumption) ?restn2
  case hyn2 => (intro V hSw; (try dsimp only at hSw); go_simp; first | done | (with_reducible rfl))
  try simp only [Act.put, List.setIfInBounds_toArray, List.set_cons_zero, List.set_cons_succ]
  refine wpAnyH_take (i := 2) (oi := ⟨some 25, _, _, _, _, _⟩) (v := ?vn3) rfl (by kernel_rfl) (by kernel_rfl) (by kernel_rfl) (fun _ _ _ h => h) (Or.inl ⟨by rfl, ?hyn3⟩) (by assumption) ?restn3
  case hyn3 => (intro V hSw; (try dsimp only at hSw); go_simp; first | done | (with_reducible rfl))
  try simp only [Act.put, List.setIfInBounds_toArray, List.set_cons_zero, List.set_cons_succ]
  refine wpAnyH_take (i := 3) (oi := ⟨some 26, _, _, _, _, _⟩) (v := ?vn4) rfl (by kernel_rfl) (by kernel_rfl) (by kernel_rfl) (fun _ _ _ h => h) (Or.inl ⟨by rfl, ?hyn4⟩) (by assumption) ?restn4
  case hyn4 => (intro V hSw; (try dsimp only at hSw); go_simp; first | done | (with_reducible rfl))
  try simp only [Act.put, List.setIfInBounds_toArray, List.set_cons_zero, List.set_cons_succ]
  refine wpAnyH_take (i := 5) (oi := ⟨some 28, _, _, _, _, _⟩) (v := ?vn5) rfl (by kernel_rfl) (by kernel_rfl) (by kernel_rfl) (fun _ _ _ h => h) (Or.inl ⟨by rfl, ?hyn5⟩) (by assumption) ?restn5
  case hyn5 => (intro V hSw; (try dsimp only at hSw); go_simp; first | done | (with_reducible rfl))
  try simp only [Act.put, List.setIfInBounds_toArray, List.set_cons_zero, List.set_cons_succ]
  refine wpAnyH_take (i := 8) (oi := ⟨some 31, _, _, _, _, _⟩) (v := ?vn6) rfl (by kernel_rfl) (by kernel_rfl) (by kernel_rfl) (fun _ _ _ h => h) (Or.inl ⟨by rfl, ?hyn6⟩) (by assumption) ?restn6
  case hyn6 => (intro V hSw; (try dsimp only at hSw); go_simp; first | done | (with_reducible rfl))
  try simp only [Act.put, List.setIfInBounds_toArray, List.set_cons_zero, List.set_cons_succ]
  refine wpAnyH_take (i := 9) (oi := ⟨some 32, _, _, _, _, _⟩) (v := ?vn7) rfl (by kernel_rfl) (by kernel_rfl) (by kernel_rfl) (fun _ _ _ h => h) (Or.inl ⟨by rfl, ?hyn7⟩) (by assumption) ?restn7
  case hyn7 => (intro V hSw; (try dsimp only at hSw); go_simp; first | done | (with_reducible rfl))
  try simp only [Act.put, List.setIfInBounds_toArray, List.set_cons_zero, List.set_cons_succ]
  refine wpAnyH_take (i := 10) (oi := ⟨some 33, _, _, _, _, _⟩) (v := ?vn8) rfl (by kernel_rfl) (by kernel_rfl) (by kernel_rfl) (fun _ _ _ h => h) (Or.inl ⟨by rfl, ?hyn8⟩) (by assumption) ?restn8
  case hyn8 => (intro V hSw; (try dsimp only at hSw); go_simp; first | done | (with_reducible rfl))
  try simp only [Act.put, List.setIfInBounds_toArray, List.set_cons_zero, List.set_cons_succ]
  refine wpAnyH_take (i := 12) (oi := ⟨some 35, _, _, _, _, _⟩) (v := ?vn9) rfl (by kernel_rfl) (by kernel_rfl) (by kernel_rfl) (fun _ _ _ h => h) (Or.inl ⟨by rfl, ?hyn9⟩) (by assumption) ?restn9
  case hyn9 => (intro V hSw; (try dsimp only at hSw); go_simp; first | done | (with_reducible rfl))
  try simp only [Act.put, List.setIfInBounds_toArray, List.set_cons_zero, List.set_cons_succ]
  refine wpAnyH_take (i := 13) (oi := ⟨some 36, _, _, _, _, _⟩) (v := ?vn10) rfl (by kernel_rfl) (by kernel_rfl) (by kernel_rfl) (fun _ _ _ h => h) (Or.inl ⟨by rfl, ?hyn10⟩) (by assumption) ?restn10
  case hyn10 => (intro V hSw; (try dsimp only at hSw); go_simp; first | done | (with_reducible rfl))
  try simp only [Act.put, List.setIfInBounds_toArray, List.set_cons_zero, List.set_cons_succ]
  refine wpAnyH_ready (rs := [4, 11]) (by kernel_rfl) (by simp) ?_
  refine AllReadyH.cons (o := ⟨some 27, _, _, _, _, _⟩) rfl (fun K hK => ?_) (AllReadyH.cons (o := ⟨some 34, _, _, _, _, _⟩) rfl (fun K hK => ?_) (AllReadyH.nil))
  · skip
    rw [if_pos (by rfl)]
    go_simp
    try dsimp only
    refine hK.out _ _ (hHeld) (fun hHeld => ?_)
    clear hK K
    try simp only [Act.put, List.setIfInBounds_toArray, List.set_cons_zero, List.set_cons_succ]
    refine wpAnyH_take (i := 6) (oi := ⟨some 29, _, _, _, _, _⟩) (v := ?vn11) rfl (by kernel_rfl) (by kernel_rfl) (by kernel_rfl) (fun _ _ _ h => h) (Or.inl ⟨by rfl, ?hyn11⟩) (by assumption) ?restn11
    case hyn11 => (intro V hSw; (try dsimp only at hSw); have z := CUT1.out V; go_simp; first | done | (with_reducible rfl))
    try simp only [Act.put, List.setIfInBounds_toArray, List.set_cons_zero, List.set_cons_succ]
    refine wpAnyH_ready (rs := [7, 11]) (by kernel_rfl) (by simp) ?_
    refine AllReadyH.cons (o := ⟨some 30, _, _, _, _, _⟩) rfl (fun K hK => ?_) (AllReadyH.cons (o := ⟨some 34, _, _, _, _, _⟩) rfl (fun K hK => ?_) (AllReadyH.nil))
    · skip
      rw [if_pos (by rfl)]
      go_simp
      try dsimp only
      refine hK.out _ _ (O1.out) (fun hHeld => ?_)
      clear hK K
      try simp only [Act.put, List.setIfInBounds_toArray, List.set_cons_zero, List.set_cons_succ]
      refine wpAnyH_ready (rs := [11]) (by kernel_rfl) (by simp) ?_
      refine AllReadyH.cons (o := ⟨some 34, _, _, _, _, _⟩) rfl (fun K hK => ?_) (AllReadyH.nil)
      rw [if_pos (by rfl)]
      go_simp
      try dsimp only
      refine hK.out _ _ (hHeld) (fun hHeld => ?_)
      clear hK K
      try simp only [Act.put, List.setIfInBounds_toArray, List.set_cons_zero, List.set_cons_succ]
      refine wpAnyH_take (i := 14) (oi := ⟨some 37, _, _, _, _, _⟩) (v := ?vn12) rfl (by kernel_rfl) (by kernel_rfl) (by kernel_rfl) (fun _ _ _ h => h) (Or.inl ⟨by rfl, ?hyn12⟩) (by assumption) ?restn12
      case hyn12 => (intro V hSw; (try dsimp only at hSw); have z := CUT2.out V; go_simp; first | done | (with_reducible rfl))
      try simp only [Act.put, List.setIfInBounds_toArray, List.set_cons_zero, List.set_cons_succ]
      refine wpAnyH_ready (rs := [15]) (by kernel_rfl) (by simp) ?_
      refine AllReadyH.cons (o := ⟨some 38, _, _, _, _, _⟩) rfl (fun K hK => ?_) (AllReadyH.nil)
      rw [if_pos (by rfl)]
      go_simp
      try dsimp only
      refine hK.out _ _ (OA.out) (fun hHeld => ?_)
      clear hK K
      try simp only [Act.put, List.setIfInBounds_toArray, List.set_cons_zero, List.set_cons_succ]
      refine wpAnyH_take (i := 16) (oi := ⟨some 39, _, _, _, _, _⟩) (v := ?vn13) rfl (by kernel_rfl) (by kernel_rfl) (by kernel_rfl) (fun _ _ _ h => h) (Or.inl ⟨by rfl, ?hyn13⟩) (by assumption) ?restn13
      case hyn13 => (intro V hSw; (try dsimp only at hSw); go_simp; first | done | (with_reducible rfl))
      try simp only [Act.put, List.setIfInBounds_toArray, List.set_cons_zero, List.set_cons_succ]
      refine wpAnyH_take (i := 17) (oi := ⟨some 40, _, _, _, _, _⟩) (v := ?vn14) rfl (by kernel_rfl) (by kernel_rfl) (by kernel_rfl) (fun _ _ _ h => h) (Or.inl ⟨by rfl, ?hyn14⟩) (by assumption) ?restn14
      case hyn14 => (intro V hSw; (try dsimp only at hSw); go_simp; first | done | (with_reducible rfl))
      try simp only [Act.put, List.setIfInBounds_toArray, List.set_cons_zero, List.set_cons_succ]
      refine wpAnyH_ready (rs := [18]) (by kernel_rfl) (by simp) ?_
      refine AllReadyH.cons (o := ⟨none, _, _, _, _, _⟩) rfl (fun K hK => ?_) (AllReadyH.nil)
      rw [if_pos (by rfl)]
      go_simp
      try dsimp only
      refine hK.out _ _ ((OA.out.setCell (p := ⟨d, 18, none⟩) (.inl (by simp)) _)) (fun hHeld => ?_)
      clear hK K
      try simp only [Act.put, List.setIfInBounds_toArray, List.set_cons_zero, List.set_cons_succ]
      refine wpAnyH_done (by kernel_rfl) ?_ _
      clear e1 e2 m3 n3 k18 f18 k18w z1 z2
      have bd : d ≠ xb ∧ d ≠ rb := ⟨by have := HRB.out; omega, by have := HRB.out; omega⟩
      have bN7 := (BN.out.only OA.out (by simp; omega)).far (p := ⟨d, 18, none⟩) (by simp; omega) (.slice A3 nl c3)
      have bX7 := (BX.out.only OA.out (by simp; omega)).far (p := ⟨d, 18, none⟩) (by simp; omega) (.slice A3 nl c3)
      have G7 := G3.out
      have o7 : Only [d] V (w3.setCell ⟨d, 18, none⟩ (.slice A3 nl c3)) := OA.out.setCell (p := ⟨d, 18, none⟩) (.inl (by simp)) _
      obtain ⟨W7, hW7⟩ : ∃ W7, w3.setCell ⟨d, 18, none⟩ (.slice A3 nl c3) = W7 := ⟨_, rfl⟩
      rw [hW7] at bN7 bX7 G7 o7 ⊢
      have x0 := (bN7.cell 0).trans (rfl : (#[Value.int .i64 (yn : Int), .int .i64 yv])[0]? = _)
      have x1 := (bN7.cell 1).trans (rfl : (#[Value.int .i64 (yn : Int), .int .i64 yv])[1]? = _)
      have y0 := (bX7.cell 0).trans (rfl : (#[Value.int .i64 0, .int .i64 0])[0]? = _)
      have y1 := (bX7.cell 1).trans (rfl : (#[Value.int .i64 0, .int .i64 0])[1]? = _)
      have y2 := bX7.frozen 0
      have y3 := bX7.frozen 1
      have G7 := hide G7
      have O7 := hide o7
      have X36 := hide (NoS.one bX7 (by decide))
      clear o7 bN7 bX7 hW7 G3 OA O1
      go_wp2_with fail
      exact bodyPost_ret (v := .tuple #[.agg #[.int .i64 (yn : Int), .int .i64 yv], .bool true]) (by simp [results, Try.results29, go_sem, x0, x1, y0, y1, y2, y3]) rfl ⟨rfl, G7.out.only (((Only.refl [rb] W7).setCell (p := ⟨rb, 0, none⟩) (.inl (by simp)) _).setCell (p := ⟨rb, 1, none⟩) (.inl (by simp)) _) (by simpa using bd.2) X36.out,
        ((HV.out.mono (by simp)).trans O7.out (by simp)).trans (((Only.refl [rb] W7).setCell (p := ⟨rb, 0, none⟩) (.inl (by simp)) _).setCell (p := ⟨rb, 1, none⟩) (.inl (by simp)) _) (by intro x hx; simp at hx; subst hx; right; have := HRB.out; omega)⟩
    · skip
      rw [if_pos (by rfl)]
      go_simp
      try dsimp only
      refine hK.out _ _ (hHeld) (fun hHeld => ?_)
      clear hK K
      try simp only [Act.put, List.setIfInBounds_toArray, List.set_cons_zero, List.set_cons_succ]
      refine wpAnyH_take (i := 14) (oi := ⟨some 37, _, _, _, _, _⟩) (v := ?vn15) rfl (by kernel_rfl) (by kernel_rfl) (by kernel_rfl) (fun _ _ _ h => h) (Or.inl ⟨by rfl, ?hyn15⟩) (by assumption) ?restn15
      case hyn15 => (intro V hSw; (try dsimp only at hSw); have z := CUT2.out V; go_simp; first | done | (with_reducible rfl))
      try simp only [Act.put, List.setIfInBounds_toArray, List.set_cons_zero, List.set_cons_succ]
      refine wpAnyH_ready (rs := [7]) (by kernel_rfl) (by simp) ?_
      refine AllReadyH.cons (o := ⟨some 30, _, _, _, _, _⟩) rfl (fun K hK => ?_) (AllReadyH.nil)
      rw [if_pos (by rfl)]
      go_simp
      try dsimp only
      refine hK.out _ _ (O1.out) (fun hHeld => ?_)
      clear hK K
      try simp only [Act.put, List.setIfInBounds_toArray, List.set_cons_zero, List.set_cons_succ]
      refine wpAnyH_ready (rs := [15]) (by kernel_rfl) (by simp) ?_
      refine AllReadyH.cons (o := ⟨some 38, _, _, _, _, _⟩) rfl (fun K hK => ?_) (AllReadyH.nil)
      rw [if_pos (by rfl)]
      go_simp
      try dsimp only
      refine hK.out _ _ (OA.out) (fun hHeld => ?_)
      clear hK K
      try simp only [Act.put, List.setIfInBounds_toArray, List.set_cons_zero, List.set_cons_succ]
      refine wpAnyH_take (i := 16) (oi := ⟨some 39, _, _, _, _, _⟩) (v := ?vn16) rfl (by kernel_rfl) (by kernel_rfl) (by kernel_rfl) (fun _ _ _ h => h) (Or.inl ⟨by rfl, ?hyn16⟩) (by assumption) ?restn16
      case hyn16 => (intro V hSw; (try dsimp only at hSw); go_simp; first | done | (with_reducible rfl))
      try simp only [Act.put, List.setIfInBounds_toArray, List.set_cons_zero, List.set_cons_succ]
      refine wpAnyH_take (i := 17) (oi := ⟨some 40, _, _, _, _, _⟩) (v := ?vn17) rfl (by kernel_rfl) (by kernel_rfl) (by kernel_rfl) (fun _ _ _ h => h) (Or.inl ⟨by rfl, ?hyn17⟩) (by assumption) ?restn17
      case hyn17 => (intro V hSw; (try dsimp only at hSw); go_simp; first | done | (with_reducible rfl))
      try simp only [Act.put, List.setIfInBounds_toArray, List.set_cons_zero, List.set_cons_succ]
      refine wpAnyH_ready (rs := [18]) (by kernel_rfl) (by simp) ?_
      refine AllReadyH.cons (o := ⟨none, _, _, _, _, _⟩) rfl (fun K hK => ?_) (AllReadyH.nil)
      rw [if_pos (by rfl)]
      go_simp
      try dsimp only
      refine hK.out _ _ ((OA.out.setCell (p := ⟨d, 18, none⟩) (.inl (by simp)) _)) (fun hHeld => ?_)
      clear hK K
      try simp only [Act.put, List.setIfInBounds_toArray, List.set_cons_zero, List.set_cons_succ]
      refine wpAnyH_done (by kernel_rfl) ?_ _
      clear e1 e2 m3 n3 k18 f18 k18w z1 z2
      have bd : d ≠ xb ∧ d ≠ rb := ⟨by have := HRB.out; omega, by have := HRB.out; omega⟩
      have bN7 := (BN.out.only OA.out (by simp; omega)).far (p := ⟨d, 18, none⟩) (by simp; omega) (.slice A3 nl c3)
      have bX7 := (BX.out.only OA.out (by simp; omega)).far (p := ⟨d, 18, none⟩) (by simp; omega) (.slice A3 nl c3)
      have G7 := G3.out
      have o7 : Only [d] V (w3.setCell ⟨d, 18, none⟩ (.slice A3 nl c3)) := OA.out.setCell (p := ⟨d, 18, none⟩) (.inl (by simp)) _
      obtain ⟨W7, hW7⟩ : ∃ W7, w3.setCell ⟨d, 18, none⟩ (.slice A3 nl c3) = W7 := ⟨_, rfl⟩
      rw [hW7] at bN7 bX7 G7 o7 ⊢
      have x0 := (bN7.cell 0).trans (rfl : (#[Value.int .i64 (yn : Int), .int .i64 yv])[0]? = _)
      have x1 := (bN7.cell 1).trans (rfl : (#[Value.int .i64 (yn : Int), .int .i64 yv])[1]? = _)
      have y0 := (bX7.cell 0).trans (rfl : (#[Value.int .i64 0, .int .i64 0])[0]? = _)
      have y1 := (bX7.cell 1).trans (rfl : (#[Value.int .i64 0, .int .i64 0])[1]? = _)
      have y2 := bX7.frozen 0
      have y3 := bX7.frozen 1
      have G7 := hide G7
      have O7 := hide o7
      have X36 := hide (NoS.one bX7 (by decide))
      clear o7 bN7 bX7 hW7 G3 OA O1
      go_wp2_with fail
      exact bodyPost_ret (v := .tuple #[.agg #[.int .i64 (yn : Int), .int .i64 yv], .bool true]) (by simp [results, Try.results29, go_sem, x0, x1, y0, y1, y2, y3]) rfl ⟨rfl, G7.out.only (((Only.refl [rb] W7).setCell (p := ⟨rb, 0, none⟩) (.inl (by simp)) _).setCell (p := ⟨rb, 1, none⟩) (.inl (by simp)) _) (by simpa using bd.2) X36.out,
        ((HV.out.mono (by simp)).trans O7.out (by simp)).trans (((Only.refl [rb] W7).setCell (p := ⟨rb, 0, none⟩) (.inl (by simp)) _).setCell (p := ⟨rb, 1, none⟩) (.inl (by simp)) _) (by intro x hx; simp at hx; subst hx; right; have := HRB.out; omega)⟩
  · skip
    rw [if_pos (by rfl)]
    go_simp
    try dsimp only
    refine hK.out _ _ (hHeld) (fun hHeld => ?_)
    clear hK K
    try simp only [Act.put, List.setIfInBounds_toArray, List.set_cons_zero, List.set_cons_succ]
    refine wpAnyH_take (i := 14) (oi := ⟨some 37, _, _, _, _, _⟩) (v := ?vn18) rfl (by kernel_rfl) (by kernel_rfl) (by kernel_rfl) (fun _ _ _ h => h) (Or.inl ⟨by rfl, ?hyn18⟩) (by assumption) ?restn18
    case hyn18 => (intro V hSw; (try dsimp only at hSw); have z := CUT2.out V; go_simp; first | done | (with_reducible rfl))
    try simp only [Act.put, List.setIfInBounds_toArray, List.set_cons_zero, List.set_cons_succ]
    refine wpAnyH_ready (rs := [4]) (by kernel_rfl) (by simp) ?_
    refine AllReadyH.cons (o := ⟨some 27, _, _, _, _, _⟩) rfl (fun K hK => ?_) (AllReadyH.nil)
    rw [if_pos (by rfl)]
    go_simp
    try dsimp only
    refine hK.out _ _ (hHeld) (fun hHeld => ?_)
    clear hK K
    try simp only [Act.put, List.setIfInBounds_toArray, List.set_cons_zero, List.set_cons_succ]
    refine wpAnyH_take (i := 6) (oi := ⟨some 29, _, _, _, _, _⟩) (v := ?vn19) rfl (by kernel_rfl) (by kernel_rfl) (by kernel_rfl) (fun _ _ _ h => h) (Or.inl ⟨by rfl, ?hyn19⟩) (by assumption) ?restn19
    case hyn19 => (intro V hSw; (try dsimp only at hSw); have z := CUT1.out V; go_simp; first | done | (with_reducible rfl))
    try simp only [Act.put, List.setIfInBounds_toArray, List.set_cons_zero, List.set_cons_succ]
    refine wpAnyH_ready (rs := [7]) (by kernel_rfl) (by simp) ?_
    refine AllReadyH.cons (o := ⟨some 30, _, _, _, _, _⟩) rfl (fun K hK => ?_) (AllReadyH.nil)
    rw [if_pos (by rfl)]
    go_simp
    try dsimp only
    refine hK.out _ _ (O1.out) (fun hHeld => ?_)
    clear hK K
    try simp only [Act.put, List.setIfInBounds_toArray, List.set_cons_zero, List.set_cons_succ]
    refine wpAnyH_ready (rs := [15]) (by kernel_rfl) (by simp) ?_
    refine AllReadyH.cons (o := ⟨some 38, _, _, _, _, _⟩) rfl (fun K hK => ?_) (AllReadyH.nil)
    rw [if_pos (by rfl)]
    go_simp
    try dsimp only
    refine hK.out _ _ (OA.out) (fun hHeld => ?_)
    clear hK K
    try simp only [Act.put, List.setIfInBounds_toArray, List.set_cons_zero, List.set_cons_succ]
    refine wpAnyH_take (i := 16) (oi := ⟨some 39, _, _, _, _, _⟩) (v := ?vn20) rfl (by kernel_rfl) (by kernel_rfl) (by kernel_rfl) (fun _ _ _ h => h) (Or.inl ⟨by rfl, ?hyn20⟩) (by assumption) ?restn20
    case hyn20 => (intro V hSw; (try dsimp only at hSw); go_simp; first | done | (with_reducible rfl))
    try simp only [Act.put, List.setIfInBounds_toArray, List.set_cons_zero, List.set_cons_succ]
    refine wpAnyH_take (i := 17) (oi := ⟨some 40, _, _, _, _, _⟩) (v := ?vn21) rfl (by kernel_rfl) (by kernel_rfl) (by kernel_rfl) (fun _ _ _ h => h) (Or.inl ⟨by rfl, ?hyn21⟩) (by assumption) ?restn21
    case hyn21 => (intro V hSw; (try dsimp only at hSw); go_simp; first | done | (with_reducible rfl))
    try simp only [Act.put, List.setIfInBounds_toArray, List.set_cons_zero, List.set_cons_succ]
    refine wpAnyH_ready (rs := [18]) (by kernel_rfl) (by simp) ?_
    refine AllReadyH.cons (o := ⟨none, _, _, _, _, _⟩) rfl (fun K hK => ?_) (AllReadyH.nil)
    rw [if_pos (by rfl)]
    go_simp
    try dsimp only
    refine hK.out _ _ ((OA.out.setCell (p := ⟨d, 18, none⟩) (.inl (by simp)) _)) (fun hHeld => ?_)
    clear hK K
    try simp only [Act.put, List.setIfInBounds_toArray, List.set_cons_zero, List.set_cons_succ]
    refine wpAnyH_done (by kernel_rfl) ?_ _
    clear e1 e2 m3 n3 k18 f18 k18w z1 z2
    have bd : d ≠ xb ∧ d ≠ rb := ⟨by have := HRB.out; omega, by have := HRB.out; omega⟩
    have bN7 := (BN.out.only OA.out (by simp; omega)).far (p := ⟨d, 18, none⟩) (by simp; omega) (.slice A3 nl c3)
    have bX7 := (BX.out.only OA.out (by simp; omega)).far (p := ⟨d, 18, none⟩) (by simp; omega) (.slice A3 nl c3)
    have G7 := G3.out
    have o7 : Only [d] V (w3.setCell ⟨d, 18, none⟩ (.slice A3 nl c3)) := OA.out.setCell (p := ⟨d, 18, none⟩) (.inl (by simp)) _
    obtain ⟨W7, hW7⟩ : ∃ W7, w3.setCell ⟨d, 18, none⟩ (.slice A3 nl c3) = W7 := ⟨_, rfl⟩
    rw [hW7] at bN7 bX7 G7 o7 ⊢
    have x0 := (bN7.cell 0).trans (rfl : (#[Value.int .i64 (yn : Int), .int .i64 yv])[0]? = _)
    have x1 := (bN7.cell 1).trans (rfl : (#[Value.int .i64 (yn : Int), .int .i64 yv])[1]? = _)
    have y0 := (bX7.cell 0).trans (rfl : (#[Value.int .i64 0, .int .i64 0])[0]? = _)
    have y1 := (bX7.cell 1).trans (rfl : (#[Value.int .i64 0, .int .i64 0])[1]? = _)
    have y2 := bX7.frozen 0
    have y3 := bX7.frozen 1
    have G7 := hide G7
    have O7 := hide o7
    have X36 := hide (NoS.one bX7 (by decide))
    clear o7 bN7 bX7 hW7 G3 OA O1
    go_wp2_with fail
    exact bodyPost_ret (v := .tuple #[.agg #[.int .i64 (yn : Int), .int .i64 yv], .bool true]) (by simp [results, Try.results29, go_sem, x0, x1, y0, y1, y2, y3]) rfl ⟨rfl, G7.out.only (((Only.refl [rb] W7).setCell (p := ⟨rb, 0, none⟩) (.inl (by simp)) _).setCell (p := ⟨rb, 1, none⟩) (.inl (by simp)) _) (by simpa using bd.2) X36.out,
      ((HV.out.mono (by simp)).trans O7.out (by simp)).trans (((Only.refl [rb] W7).setCell (p := ⟨rb, 0, none⟩) (.inl (by simp)) _).setCell (p := ⟨rb, 1, none⟩) (.inl (by simp)) _) (by intro x hx; simp at hx; subst hx; right; have := HRB.out; omega)⟩
theorem rnext_spec (h : DS w d T S L M) (t : Int) (W : Nat) (hW : W < 4294967296) : Calls Try.prog 29 #[ptr d, .int .i64 t, .int .u32 W] w fun e w' => e = .returned (sigV (peekI T L t W)) ∧ DS w' d T S (nextL T L t W) M ∧ Only [d] w w' := by
  unfold nextL
  cases hp : placeI T L t W with
  | none =>
    have hk := place_none h.inv hp
    rw [hk]
    refine (rnext_none _ t W w (fun V o => ?_)).mono ?_
    · have := rpeek_spec (h.only0 o) t W hW
      rw [hk] at this
      exact this
    · rintro e w' ⟨rfl, o⟩
      exact ⟨rfl, h.only0 o, o.mono (by simp)⟩
  | some b =>
    obtain ⟨y, h1, h2, h3⟩ := place_some h.inv hp
    rw [h2]
    have := rnext_some h t W hW b y h1 hp
    rw [h3] at this
    exact this
end
end Go.Proofs.Ytnmlcijkggfhmaa
