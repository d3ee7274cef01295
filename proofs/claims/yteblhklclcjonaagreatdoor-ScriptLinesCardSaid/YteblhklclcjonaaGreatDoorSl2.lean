/- Script: the walk of ScriptLines. Condition: Env, the events lie. -/
import Derived.Test.YteblhklclcjonaaGreatDoorSn2
import Derived.Test.YteblhklclcjonaaGreatDoorSm5
import Derived.Test.YteblhklclcjonaaGreatDoorSe5
import Derived.BigRegion
namespace Go.Proofs.YteblhklclcjonaaGreatDoor
open Go.RowKit
set_option linter.unusedVariables false
set_option linter.all false
set_option maxRecDepth 100000
attribute [local go_sem] Oper.semAt_some

/-- The law's frame behind an assignment of its loop. -/
def LF (k m n : Int) (s : List UInt8) (A : Option Addr) (nl c X Y9 Y11 Y13 Z : Nat) (T : ByteArray) (E er u1 u2 u3 : Int) (SB : Option Addr) (Ln sd : Nat) (mb : Bool) (RB : Option Addr) (rd bz : Nat) (v : Value) : Array Value := #[.agg #[.int .i64 k, .int .i64 m, .int .i64 n], .string (bs s), .slice A nl c, .pointer (some ⟨X, 0, none⟩), undef, undef, .pointer (some ⟨X + 1, 0, none⟩), .string T, .int .i64 E, .pointer (some ⟨Y9, 0, none⟩), .int .i64 er, .pointer (some ⟨Y11, 0, none⟩), .int .i64 er, .pointer (some ⟨Y13, 0, none⟩), .bool true, .func (Fn.func 36) #[] #[.pointer (some ⟨Z, 0, none⟩)], .pointer (some ⟨bz, 0, none⟩), undef, undef, .string (bs s), .int .i64 ↑s.length, .bool false, .bool false, .slice A nl c, .int .i64 ↑nl, .bool false, .bool false, undef, .tuple #[.string T, .int .i64 E], .agg #[.int .i64 k, .int .i64 m, .int .i64 n], .tuple #[.string T, .int .i64 E], .string T, .int .i64 E, .tuple #[.agg #[.int .i64 u1, .int .i64 u2, .int .i64 u3], .int .i64 er], .string (bs s), .tuple #[.agg #[.int .i64 u1, .int .i64 u2, .int .i64 u3], .int .i64 er], .agg #[.int .i64 u1, .int .i64 u2, .int .i64 u3], .int .i64 er, .tuple #[.agg #[.int .i64 u1, .int .i64 u2, .int .i64 u3], .int .i64 er], .string (bs s), .tuple #[.agg #[.int .i64 u1, .int .i64 u2, .int .i64 u3], .int .i64 er], .agg #[.int .i64 u1, .int .i64 u2, .int .i64 u3], .int .i64 er, .tuple #[.slice SB Ln sd, .bool true], .slice A nl c, .tuple #[.slice SB Ln sd, .bool true], .slice SB Ln sd, .bool true, .agg #[.int .i64 u1, .int .i64 u2, .int .i64 u3], .agg #[.int .i64 u1, .int .i64 u2, .int .i64 u3], .bool false, .bool false, .int .i64 er, .int .i64 er, .int .i64 er, .bool false, .bool false, .bool false, .pointer (some ⟨X, 0, none⟩), .agg #[.int .i64 k, .int .i64 m], .bool mb, .pointer (some ⟨X, 0, none⟩), .agg #[.int .i64 k, .int .i64 m], .bool mb, .bool false, .bool false, .bool false, .bool true, .bool false, .bool false, .bool false, .slice SB Ln sd, .slice A nl c, .slice RB Ln rd, .bool true, .bool false, .bool false, .slice A nl c, .func (Fn.func 36) #[] #[.pointer (some ⟨Z, 0, none⟩)], .func (Fn.func 36) #[] #[.pointer (some ⟨Z, 0, none⟩)], .bool false, .func (Fn.func 36) #[] #[.pointer (some ⟨Z, 0, none⟩)], v, undef, undef, undef, undef, undef, undef, undef, undef, undef, undef, undef, undef, undef, undef, undef, undef, undef, undef, undef, undef, undef, undef, undef, undef, undef, undef, undef, undef, undef, undef, undef, undef, undef, undef, undef, undef, undef, undef, undef, undef, undef, undef, undef, undef, undef, undef, undef, undef]
theorem blk_put {V : World} {g D : Nat} {t : TypeId} {cs : Array Value} (h : Blk V g t cs) (hD : V.heap[D]? = some (.deferred (some []))) : Blk (V.putObj D (.deferred none)) g t cs := blk_turn h (grownBy_putObj' V D (.deferred none)) (fun r e => by cases e; exact ⟨_, hD, rfl⟩)
theorem only_put {w V : World} {D : Nat} (o : Only [] w V) (hD : w.heap.size ≤ D) : Only [] w (V.putObj D (.deferred none)) := o.grown (grownBy_putObj' V D (.deferred none)) (fun k e => by cases e; exact .inr hD)
theorem set_rec {V : World} {D X : Nat} {o : Obj} (h : V.heap[D]? = some o) (hne : X < D) (v : Value) : (V.setCell ⟨X, 0, none⟩ v).heap[D]? = some o := (Below.heap_setCell V ⟨X, 0, none⟩ v D (by simp only; omega)).trans h
set_option maxHeartbeats 8000000 in
theorem slines_main (k m n : Int) (s : List UInt8) (A : Option Addr) (nl c : Nat) (f : Nat → Ev) (w : World) (he : Env w) (hw4 : 4 ≤ w.heap.size) (hs : s.length ≤ 9000) (hn : nl ≤ 9000) (hE : EvAt w A nl f) (hA : EvLt A w.heap.size) : Calls Tryz.prog 3 #[.agg #[.int .i64 k, .int .i64 m, .int .i64 n], .string (bs s), .slice A nl c] w fun e w' => e = .returned (.bool true) ∧ Only [] w w' := by
  have HE := hide he
  have hz : (bs s).size = s.length := bs_size s
  have OC := hide (((Only.refl [] w).alloc (.cells #[.int .i64 k, .int .i64 m, .int .i64 n] 26)).alloc (.cells #[.bool false] 4))
  have B3 := hide ((Blk.new w 26 #[.int .i64 k, .int .i64 m, .int .i64 n]).alloc (.cells #[.bool false] 4))
  have B6 := hide (Blk.new (w.alloc (.cells #[.int .i64 k, .int .i64 m, .int .i64 n] 26)) 4 #[.bool false])
  simp only [World.size_alloc] at B6
  obtain ⟨X, hX⟩ : ∃ X, w.heap.size = X := ⟨_, rfl⟩
  rw [hX] at B3 B6
  have x0 := B3.out.cell 0; have x1 := B3.out.cell 1; have x2 := B3.out.cell 2
  have KN := hide (fun W (o : Only [] w W) => sknown_any W (HE.out.only o) (by have := o.size; omega))
  obtain ⟨T, hT⟩ : ∃ T, (if mayS ⟨⟨k, m⟩, n⟩ then bs (lineT ⟨⟨k, m⟩, n⟩) else bs []) = T := ⟨_, rfl⟩
  obtain ⟨E, hEe⟩ : ∃ E : Int, (if mayS ⟨⟨k, m⟩, n⟩ then 0 else 2) = E := ⟨_, rfl⟩
  have LN := fun W (o : Only [] w W) => sline_any k m n W (HE.out.only o)
  simp only [hT, hEe] at LN
  have LN := hide LN
  obtain ⟨u1, u2, u3, er, hu⟩ : ∃ u1 u2 u3 er : Int, unlV (unlF s) = .tuple #[.agg #[.int .i64 u1, .int .i64 u2, .int .i64 u3], .int .i64 er] := by
    cases unlF s with
    | none => exact ⟨0, 0, 0, 4, rfl⟩
    | some x => exact ⟨x.ev.kind, x.ev.num, x.n, 0, rfl⟩
  have UN := fun W (o : Only [] w W) => unline_any s (by omega) W (HE.out.only o) (by have := o.size; omega)
  have RU := fun W (o : Only [] w W) => runline_any s (by omega) W (HE.out.only o)
  simp only [hu] at UN RU
  have UN := hide UN
  have RU := hide RU
  obtain ⟨L, hL⟩ : ∃ L, strF (evL nl f) = L := ⟨_, rfl⟩
  have ST := fun W (o : Only [] w W) => strs_any A nl c f W (by omega) (hE.only0 o) (fun a ha => by have := hA a ha; have := o.size; omega)
  have RS := fun W (o : Only [] w W) => rstrs_any A nl c f W (by omega) (hE.only0 o)
  simp only [hL] at ST RS
  have ST := hide ST
  have RS := hide RS
  have HAE := hide hE
  have HAA := hide hA
  have HLL := hide hL
  have HTT := hide hT
  have HEE := hide hEe
  have hLl : L.length ≤ 9000 := by rw [← hL]; have := strF_len (evL nl f); rw [evL_len] at this; omega
  have d1 : decide ((9000 : Int) < (s.length : Int)) = false := decide_eq_false (by omega)
  have d2 : decide (9000 < s.length) = false := decide_eq_false (by omega)
  have d3 : ¬ (9000 : Int) < (s.length : Int) := by omega
  have e1 : decide ((9000 : Int) < (nl : Int)) = false := decide_eq_false (by omega)
  have e2 : decide (9000 < nl) = false := decide_eq_false (by omega)
  have e3 : ¬ (9000 : Int) < (nl : Int) := by omega
  clear he hE hA hL hT hEe hu
  refine (callsIn_wide (n := 8)).1 ?_
  refine callsIn_of_wp_marks Tryz.func3 rfl trivial ?_ rfl
  simp only [Tryz.ntmps3, List.size_toArray, List.length_cons, List.length_nil, Nat.reduceAdd, Nat.reduceSub, Array.replicate_succ, Array.replicate_zero, List.push_toArray, List.append_toArray, List.nil_append, List.cons_append]
  refine wpIn_wide.2 ?_
  go_wp2_with (first
    | (go_at_call 8; (with_reducible refine (LN.out _ OC.out).mono ?_); rintro e w1 ⟨rfl, o1⟩; have OC := hide (OC.out.trans0 o1); have B3 := hide (B3.out.only o1 (by simp)); have B6 := hide (B6.out.only o1 (by simp)); clear o1)
    | (go_at_call 9; (with_reducible refine (UN.out _ OC.out).mono ?_); rintro e w9 ⟨rfl, o1⟩; have oz := o1.trans0 ((Only.refl [] w9).alloc (.cells #[.int .i64 u1, .int .i64 u2, .int .i64 u3] 26)); have B9 := hide (Blk.new w9 26 #[.int .i64 u1, .int .i64 u2, .int .i64 u3]); have OC := hide (OC.out.trans0 oz); have B3 := hide (B3.out.only oz (by simp)); have B6 := hide (B6.out.only oz (by simp)); clear o1 oz)
    | (go_at_call 10; (with_reducible refine (RU.out _ OC.out).mono ?_); rintro e w10 ⟨rfl, o1⟩; have oz := o1.trans0 ((Only.refl [] w10).alloc (.cells #[.int .i64 u1, .int .i64 u2, .int .i64 u3] 26)); have B11 := hide (Blk.new w10 26 #[.int .i64 u1, .int .i64 u2, .int .i64 u3]); have OC := hide (OC.out.trans0 oz); have B3 := hide (B3.out.only oz (by simp)); have B6 := hide (B6.out.only oz (by simp)); have B9 := hide (B9.out.only oz (by simp)); clear o1 oz)
    | (go_at_call 11; (with_reducible refine (ST.out _ OC.out).mono ?_); rintro e w11 ⟨⟨SB, sd, rfl, hss⟩, o1⟩; have oy := (Only.refl [] w11).alloc (.cells #[.slice SB L.length sd] 36); have oz := o1.trans0 oy; have B13 := hide (Blk.new w11 36 #[.slice SB L.length sd]); have SS := hide (hss.only0 oy); have OC := hide (OC.out.trans0 oz); have B3 := hide (B3.out.only oz (by simp)); have B6 := hide (B6.out.only oz (by simp)); have B9 := hide (B9.out.only oz (by simp)); have B11 := hide (B11.out.only oz (by simp)); clear o1 oy oz hss))
  obtain ⟨W6, hW6⟩ : ∃ W, w11.alloc (.cells #[.slice SB L.length sd] 36) = W := ⟨_, rfl⟩
  rw [hW6] at B3 B6 B9 B11 B13 SS OC ⊢
  obtain ⟨Y9, hY9⟩ : ∃ Y, w9.heap.size = Y := ⟨_, rfl⟩
  obtain ⟨Y11, hY11⟩ : ∃ Y, w10.heap.size = Y := ⟨_, rfl⟩
  obtain ⟨Y13, hY13⟩ : ∃ Y, w11.heap.size = Y := ⟨_, rfl⟩
  rw [hY9] at B9
  rw [hY11] at B11
  rw [hY13] at B13
  simp only [hY9, hY11, hY13, hX]
  clear hY9 hY11 hY13
  have STAY := hide (fun V (o : Only [] W6 V) => (show V.cell? ⟨Y9, 0, none⟩ = some (.int .i64 u1) ∧ V.cell? ⟨Y9, 1, none⟩ = some (.int .i64 u2) ∧ V.cell? ⟨Y9, 2, none⟩ = some (.int .i64 u3) ∧ V.cell? ⟨Y11, 0, none⟩ = some (.int .i64 u1) ∧ V.cell? ⟨Y11, 1, none⟩ = some (.int .i64 u2) ∧ V.cell? ⟨Y11, 2, none⟩ = some (.int .i64 u3) ∧ V.cell? ⟨X, 0, none⟩ = some (.int .i64 k) ∧ V.cell? ⟨X, 1, none⟩ = some (.int .i64 m) ∧ V.cell? ⟨X, 2, none⟩ = some (.int .i64 n) ∧ V.cell? ⟨Y13, 0, none⟩ = some (.slice SB L.length sd) from ⟨(B9.out.only o (by simp)).cell 0, (B9.out.only o (by simp)).cell 1, (B9.out.only o (by simp)).cell 2, (B11.out.only o (by simp)).cell 0, (B11.out.only o (by simp)).cell 1, (B11.out.only o (by simp)).cell 2, (B3.out.only o (by simp)).cell 0, (B3.out.only o (by simp)).cell 1, (B3.out.only o (by simp)).cell 2, (B13.out.only o (by simp)).cell 0⟩))
  have SS0 := SS
  have OD := hide ((Only.refl [] W6).drew)
  have kd := STAY.out _ OD.out
  obtain ⟨mb, hmb⟩ : ∃ b, mayE ⟨k, m⟩ = b := ⟨_, rfl⟩
  have MY := fun W => may_ev k m W
  have RM := fun W => rmay_ev k m W
  simp only [hmb] at MY RM
  have MY := hide MY
  have RM := hide RM
  clear hW6 x0 x1 x2 hmb
  have t1 : (u1 == u1 && (u2 == u2 && u3 == u3)) = true := by simp
  go_region_held3 (fun V => V.cell? ⟨Y9, 0, none⟩ = some (.int .i64 u1) ∧ V.cell? ⟨Y9, 1, none⟩ = some (.int .i64 u2) ∧ V.cell? ⟨Y9, 2, none⟩ = some (.int .i64 u3) ∧ V.cell? ⟨Y11, 0, none⟩ = some (.int .i64 u1) ∧ V.cell? ⟨Y11, 1, none⟩ = some (.int .i64 u2) ∧ V.cell? ⟨Y11, 2, none⟩ = some (.int .i64 u3) ∧ V.cell? ⟨X, 0, none⟩ = some (.int .i64 k) ∧ V.cell? ⟨X, 1, none⟩ = some (.int .i64 m) ∧ V.cell? ⟨X, 2, none⟩ = some (.int .i64 n) ∧ V.cell? ⟨Y13, 0, none⟩ = some (.slice SB L.length sd)) (first | exact kd | go_keep) (first
    | (go_at_call 12; (with_reducible refine (num_any _ _).mono ?_); rintro e w2 ⟨rfl, hw⟩; obtain rfl := hw.symm; clear hw)
    | (go_at_call 13; (with_reducible refine (MY.out _).mono ?_); rintro e w2 ⟨rfl, o2⟩; have OD := hide (OD.out.trans0 o2); have kd := STAY.out _ OD.out; clear o2)
    | (go_at_call 14; (with_reducible refine (RM.out _).mono ?_); rintro e w2 ⟨rfl, o2⟩; have OD := hide (OD.out.trans0 o2); have kd := STAY.out _ OD.out; clear o2)
    | (go_at_call 16; (with_reducible refine (RS.out _ (OC.out.trans0 OD.out)).mono ?_); rintro e w2 ⟨⟨RB, rd, rfl, hrs⟩, o2⟩; have SR := hide hrs; have OD := hide (OD.out.trans0 o2); have kd := STAY.out _ OD.out; clear o2 hrs)
    | (go_at_call 15; (with_reducible refine (same_self L (by omega) _ _ _ _ _ _ _ (SS.out.only0 OD.out) SR.out).mono ?_); rintro e w2 ⟨rfl, o2⟩; have OD := hide (OD.out.trans0 o2); have kd := STAY.out _ OD.out; clear o2))
  have SG := fun W => stretches_any A nl c W
  have hNF := fun A B W => eq_nilFunc (Fn.func 36) A B W
  clear kd t1 MY RM RS RU UN ST SR
  go_wp2_with (first
    | (go_at_call 17; (with_reducible refine (SG _).mono ?_); rintro e w3 ⟨rfl, hw⟩; obtain rfl := hw.symm; clear hw))
  obtain ⟨Z, hZ⟩ : ∃ Z, w2.heap.size = Z := ⟨_, rfl⟩
  have hwZ : w.heap.size ≤ Z := by rw [← hZ]; exact Nat.le_trans OC.out.size OD.out.size
  have bX := Blk.new w2 27 #[.slice A nl c]
  have oy := (Only.refl [] w2).alloc (.cells #[.slice A nl c] 27)
  have o67 := OD.out.trans0 oy
  have B6 := B6.out.only o67 (by simp)
  have B3 := B3.out.only o67 (by simp)
  have B13 := B13.out.only o67 (by simp)
  have SS := SS.out.only0 o67
  have OC := OC.out.trans0 o67
  have hs7 : (w2.alloc (.cells #[.slice A nl c] 27)).heap.size = Z + 1 := by simp [hZ]
  obtain ⟨W7, hW7⟩ : ∃ W, w2.alloc (.cells #[.slice A nl c] 27) = W := ⟨_, rfl⟩
  rw [hZ] at bX
  rw [hW7] at bX B6 B3 B13 SS OC hs7 ⊢
  rw [hZ]
  have hE7 := HAE.out.only0 OC
  have hA7 : EvLt A (Z + 1) := fun a e => by have := HAA.out a e; omega
  have ST := str_stops (w := W7) 7 Z (Z + 1) nl c A f (by decide) (by omega) (by omega) (by omega) hA7 hE7 bX
  rw [HLL.out] at ST
  clear oy o67 hW7 hZ SG hNF hE7 OD SS0
  have B6 := hide B6
  have B3 := hide B3
  have B13 := hide B13
  have SS := hide SS
  have OC := hide OC
  have bX := hide bX
  refine (wpIn_wide (n := 8)).1 ?_
  refine' wpIn_rangeFunc_ownH (F := Fence.wide) (n := 8) rfl (by decide) (gf := 36) (lb := #[.pointer (some ⟨Z, 0, none⟩)]) rfl trivial (enters_of Tryz.func36 (by kernel_rfl) rfl)
    ST (fun h k => h.trans k) (fun W l o o' hl h hc hw => Kpn.putObj W l o o' (by omega)) (Below.refl _ _) (fun _ => rfl)
    (fun pre W => pre = [] ∧ Only [] W7 W)
    (fun c pre W => (c = .exit 0 ∧ Only [] W7 W) ∨ ¬ pre <+: L)
    (fun s A B row hs hg hr => ⟨hs.1, hs.2.grown hg (fun k e => .inr (by have := (hr k e).1; omega))⟩)
    (fun c s A B row hs hg hr => hs.elim (fun h => .inl ⟨h.1, h.2.grown hg (fun k e => .inr (by have := (hr k e).1; omega))⟩) .inr)
    ⟨rfl, Only.refl _ _⟩ (fun x a' W => ∃ bz v, a' = { tmps := LF k m n s A nl c X Y9 Y11 Y13 Z T E er u1 u2 u3 SB L.length sd mb RB rd bz v, defers := [] } ∧ Blk W bz 26 #[.int .i64 x.ev.kind, .int .i64 x.ev.num, .int .i64 x.n])
    (fun x a' s A B row hs hg hr => by obtain ⟨bz, v, hv, hz⟩ := hs; exact ⟨bz, v, hv, blk_turn hz hg (fun r e => (hr r e).2)⟩) ?assign ?body ?done ?stop
  case assign =>
    rintro l pre x W K ⟨h1, h3⟩ hK
    gi_wp2
    have oo := (Only.refl [] W).alloc (.cells #[.int .i64 x.ev.kind, .int .i64 x.ev.num, .int .i64 x.n] 26)
    have hlt := h3.size
    exact hK _ _ (kf_only0 oo) (Kpn.only0 oo (by omega)) ⟨h1, h3.trans0 oo⟩ ⟨W.heap.size, _, rfl, Blk.new W 26 _⟩
  case body =>
    rintro l pre x a' W hl0 ⟨r0, hr0⟩ ⟨rfl, hO⟩ ⟨bz, v, rfl, hz⟩ hlt
    try dsimp only
    unfold LF
    obtain ⟨⟨xk, xm⟩, xn⟩ := x
    simp only at hz
    have z0 := hz.cell 0
    have z1 := hz.cell 1
    have z2 := hz.cell 2
    have c13 := (B13.out.only hO (by simp)).cell 0
    have HO := hide hO
    have hL0 : 0 < L.length := by simpa using hlt
    obtain ⟨y, hy⟩ : ∃ y, L[0]? = some y := ⟨_, List.getElem?_eq_getElem hL0⟩
    obtain ⟨gS, rfl, s0, s1, s2⟩ := (SS.out.only0 hO).cells hy
    obtain ⟨⟨yk, ym⟩, yn⟩ := y
    simp only at s0 s1 s2
    obtain ⟨q, hq⟩ : ∃ q, L.length = q := ⟨_, rfl⟩
    rw [hq] at c13 hL0 hLl ⊢
    have b0 : ((q : Int) == 0) = false := by simp; omega
    have q1 : (0 : Int) < (q : Int) := by omega
    have NQ := fun V => neqSt xk xm xn yk ym yn V
    have HLY := hide hy
    clear hq hy hz hO hlt
    by_cases he : (xk = yk ∧ xm = ym) ∧ xn = yn
    · have e1 : (!((xk == yk && xm == ym) && xn == yn)) = false := by simp [he.1.1, he.1.2, he.2]
      rw [e1] at NQ
      clear he e1
      gi_wp2
      gi_region
      all_goals gi_wp2
      all_goals exact ⟨kf_only0 ((Only.refl [] W).drew), .inl ⟨rfl, HO.out.drew⟩⟩
    · have e1 : (!((xk == yk && xm == ym) && xn == yn)) = true := by
        rw [Bool.not_eq_true', Bool.eq_false_iff]
        intro h
        simp at h
        exact he h
      rw [e1] at NQ
      have hnp : ¬ ([] ++ [(⟨⟨xk, xm⟩, xn⟩ : Str)]) <+: L := by
        rintro ⟨t, ht⟩
        have := HLY.out
        rw [← ht] at this
        simp at this
        exact he ⟨⟨this.1.1, this.1.2⟩, this.2⟩
      have x6 := ((B6.out.only (HO.out.drew) (by simp)).cell 0)
      have f6 := ((B6.out.only (HO.out.drew) (by simp)).frozen 0)
      clear he e1
      gi_wp2
      gi_region
      all_goals gi_wp2
      all_goals exact ⟨KeepsFrom.trans (kf_only0 ((Only.refl [] W).drew)) ((KeepsOthers.setCell _ _ _).from _), .inr hnp⟩
  case done =>
    rintro D ys V1 hDa hys ⟨hp, hO⟩ hK1
    have hDX : X + 1 < D := by have := B6.out.lt; omega
    have OV := hide (OC.out.trans0 hO)
    have KD := hide hK1
    have B3 := hide (B3.out.only hO (by simp))
    have B6 := hide (B6.out.only hO (by simp))
    have x0 := B3.out.cell 0
    have x1 := B3.out.cell 1
    have x2 := B3.out.cell 2
    have hDw : w.heap.size ≤ D := by omega
    have MS := fun W => rmays_any k m n W
    clear hO hK1
    cases hm : mayS ⟨⟨k, m⟩, n⟩ with
    | false =>
      have hT := HTT.out
      have hEe := HEE.out
      rw [hm] at hT hEe
      simp only [hm] at MS
      have MS := hide MS
      obtain rfl : (ByteArray.mk #[]) = T := hT
      obtain rfl : (2 : Int) = E := hEe
      clear hm
      gi_wp2
      go_wp2_with (first
        | (go_at_call 18; (with_reducible refine (MS.out _).mono ?_); rintro e v1 ⟨rfl, o1⟩; have OV := hide (OV.out.trans0 o1); have KD := hide ((o1.block D (Array.getElem?_eq_some_iff.1 KD.out).1 (by simp)).trans KD.out); have B3 := hide (B3.out.only o1 (by simp)); have B6 := hide (B6.out.only o1 (by simp)); have x0 := B3.out.cell 0; have x1 := B3.out.cell 1; have x2 := B3.out.cell 2; have x6 := B6.out.cell 0; have f6 := B6.out.frozen 0; clear o1)
        | (go_at_call 12; (with_reducible refine (num_any _ _).mono ?_); rintro e v2 ⟨rfl, hw⟩; obtain rfl := hw.symm; clear hw)
        | (go_at_call 7; (with_reducible refine (KN.out _ OV.out).mono ?_); rintro e v3 ⟨rfl, o1⟩; have OV := hide (OV.out.trans0 o1); have KD := hide ((o1.block D (Array.getElem?_eq_some_iff.1 KD.out).1 (by simp)).trans KD.out); have B3 := hide (B3.out.only o1 (by simp)); have B6 := hide (B6.out.only o1 (by simp)); have x0 := B3.out.cell 0; have x1 := B3.out.cell 1; have x2 := B3.out.cell 2; have x6 := B6.out.cell 0; have f6 := B6.out.frozen 0; clear o1))
      have qD := set_rec KD.out (X := X + 1) (by omega) (.bool true)
      have bB := B6.out.set_ 0 (.bool true)
      have oV := OV.out.setCell (p := ⟨X + 1, 0, none⟩) (.inr (by simp only; omega)) (.bool true)
      refine ⟨by simp, .inl ⟨_, _, rfl, run_takeDeferred qD, ?_⟩⟩
      have bC := blk_put bB qD
      have y0 := bC.cell 0
      refine ⟨.bool true, ?_, rfl, only_put oV hDw⟩
      simp only [results, Tryz.results3]
      simp [go_sem, y0]
    | true =>
      have hT := HTT.out
      have hEe := HEE.out
      rw [hm] at hT hEe
      simp only [hm] at MS
      have MS := hide MS
      have hT : bs (lineT ⟨⟨k, m⟩, n⟩) = T := hT
      obtain rfl : (0 : Int) = E := hEe
      have hb := mayS_num hm
      simp only at hb
      have hlf := (lineT_facts hm).2.1
      have UN2 := fun W (o : Only [] w W) => unline_any (lineT ⟨⟨k, m⟩, n⟩) (by omega) W (HE.out.only o) (by have := o.size; omega)
      rw [unl_back hm, hT] at UN2
      have UN2 := hide (fun W (o : Only [] w W) => (show Calls Tryz.prog 9 #[.string T] W fun e w' => e = .returned (.tuple #[.agg #[.int .i64 k, .int .i64 m, .int .i64 n], .int .i64 0]) ∧ Only [] W w' from UN2 W o))
      have RL := fun W (o : Only [] w W) => rsline_any k m n (by omega) (by omega) (by omega) (by omega) W (HE.out.only o)
      rw [hT] at RL
      have RL := hide RL
      clear hm hb hT hlf
      gi_wp2
      go_wp2_with (first
        | (go_at_call 18; (with_reducible refine (MS.out _).mono ?_); rintro e v1 ⟨rfl, o1⟩; have OV := hide (OV.out.trans0 o1); have KD := hide ((o1.block D (Array.getElem?_eq_some_iff.1 KD.out).1 (by simp)).trans KD.out); have B3 := hide (B3.out.only o1 (by simp)); have B6 := hide (B6.out.only o1 (by simp)); have x0 := B3.out.cell 0; have x1 := B3.out.cell 1; have x2 := B3.out.cell 2; have x6 := B6.out.cell 0; have f6 := B6.out.frozen 0; clear o1)
        | (go_at_call 9; (with_reducible refine (UN2.out _ OV.out).mono ?_); rintro e v1 ⟨rfl, o1⟩; have B17 := hide (Blk.new v1 26 #[.int .i64 k, .int .i64 m, .int .i64 n]); have o2 := o1.trans0 ((Only.refl [] v1).alloc (.cells #[.int .i64 k, .int .i64 m, .int .i64 n] 26)); have OV := hide (OV.out.trans0 o2); have KD := hide ((o2.block D (Array.getElem?_eq_some_iff.1 KD.out).1 (by simp)).trans KD.out); have B3 := hide (B3.out.only o2 (by simp)); have B6 := hide (B6.out.only o2 (by simp)); have x0 := B3.out.cell 0; have x1 := B3.out.cell 1; have x2 := B3.out.cell 2; have x6 := B6.out.cell 0; have f6 := B6.out.frozen 0; clear o1 o2)
        | (go_at_call 19; (with_reducible refine (RL.out _ OV.out).mono ?_); rintro e v2 ⟨rfl, o1⟩; have OV := hide (OV.out.trans0 o1); have KD := hide ((o1.block D (Array.getElem?_eq_some_iff.1 KD.out).1 (by simp)).trans KD.out); have B3 := hide (B3.out.only o1 (by simp)); have B6 := hide (B6.out.only o1 (by simp)); have B17 := hide (B17.out.only o1 (by simp)); have x0 := B3.out.cell 0; have x1 := B3.out.cell 1; have x2 := B3.out.cell 2; have x6 := B6.out.cell 0; have f6 := B6.out.frozen 0; have z0 := B17.out.cell 0; have z1 := B17.out.cell 1; have z2 := B17.out.cell 2; clear o1)
        | (go_at_call 12; (with_reducible refine (num_any _ _).mono ?_); rintro e v2 ⟨rfl, hw⟩; obtain rfl := hw.symm; clear hw)
        | (go_at_call 7; (with_reducible refine (KN.out _ OV.out).mono ?_); rintro e v3 ⟨rfl, o1⟩; have OV := hide (OV.out.trans0 o1); have KD := hide ((o1.block D (Array.getElem?_eq_some_iff.1 KD.out).1 (by simp)).trans KD.out); have B3 := hide (B3.out.only o1 (by simp)); have B6 := hide (B6.out.only o1 (by simp)); have x0 := B3.out.cell 0; have x1 := B3.out.cell 1; have x2 := B3.out.cell 2; have x6 := B6.out.cell 0; have f6 := B6.out.frozen 0; clear o1))
      have qD := set_rec KD.out (X := X + 1) (by omega) (.bool true)
      have bB := B6.out.set_ 0 (.bool true)
      have oV := OV.out.setCell (p := ⟨X + 1, 0, none⟩) (.inr (by simp only; omega)) (.bool true)
      refine ⟨by simp, .inl ⟨_, _, rfl, run_takeDeferred qD, ?_⟩⟩
      have bC := blk_put bB qD
      have y0 := bC.cell 0
      refine ⟨.bool true, ?_, rfl, only_put oV hDw⟩
      simp only [results, Tryz.results3]
      simp [go_sem, y0]
  case stop =>
    rintro D cc pre V1 hDa hpre hx hK1
    rcases hx with ⟨rfl, hO⟩ | hx
    · have hDX : X + 1 < D := by have := B6.out.lt; omega
      have OV := hide (OC.out.trans0 hO)
      have KD := hide hK1
      have B3 := hide (B3.out.only hO (by simp))
      have B6 := hide (B6.out.only hO (by simp))
      have x0 := B3.out.cell 0
      have x1 := B3.out.cell 1
      have x2 := B3.out.cell 2
      have hDw : w.heap.size ≤ D := by omega
      have MS := fun W => rmays_any k m n W
      clear hO hK1
      cases hm : mayS ⟨⟨k, m⟩, n⟩ with
      | false =>
        have hT := HTT.out
        have hEe := HEE.out
        rw [hm] at hT hEe
        simp only [hm] at MS
        have MS := hide MS
        obtain rfl : (ByteArray.mk #[]) = T := hT
        obtain rfl : (2 : Int) = E := hEe
        clear hm
        gi_wp2
        go_wp2_with (first
          | (go_at_call 18; (with_reducible refine (MS.out _).mono ?_); rintro e v1 ⟨rfl, o1⟩; have OV := hide (OV.out.trans0 o1); have KD := hide ((o1.block D (Array.getElem?_eq_some_iff.1 KD.out).1 (by simp)).trans KD.out); have B3 := hide (B3.out.only o1 (by simp)); have B6 := hide (B6.out.only o1 (by simp)); have x0 := B3.out.cell 0; have x1 := B3.out.cell 1; have x2 := B3.out.cell 2; have x6 := B6.out.cell 0; have f6 := B6.out.frozen 0; clear o1)
          | (go_at_call 12; (with_reducible refine (num_any _ _).mono ?_); rintro e v2 ⟨rfl, hw⟩; obtain rfl := hw.symm; clear hw)
          | (go_at_call 7; (with_reducible refine (KN.out _ OV.out).mono ?_); rintro e v3 ⟨rfl, o1⟩; have OV := hide (OV.out.trans0 o1); have KD := hide ((o1.block D (Array.getElem?_eq_some_iff.1 KD.out).1 (by simp)).trans KD.out); have B3 := hide (B3.out.only o1 (by simp)); have B6 := hide (B6.out.only o1 (by simp)); have x0 := B3.out.cell 0; have x1 := B3.out.cell 1; have x2 := B3.out.cell 2; have x6 := B6.out.cell 0; have f6 := B6.out.frozen 0; clear o1))
        have qD := set_rec KD.out (X := X + 1) (by omega) (.bool true)
        have bB := B6.out.set_ 0 (.bool true)
        have oV := OV.out.setCell (p := ⟨X + 1, 0, none⟩) (.inr (by simp only; omega)) (.bool true)
        refine ⟨by simp, .inl ⟨_, _, rfl, run_takeDeferred qD, ?_⟩⟩
        have bC := blk_put bB qD
        have y0 := bC.cell 0
        refine ⟨.bool true, ?_, rfl, only_put oV hDw⟩
        simp only [results, Tryz.results3]
        simp [go_sem, y0]
      | true =>
        have hT := HTT.out
        have hEe := HEE.out
        rw [hm] at hT hEe
        simp only [hm] at MS
        have MS := hide MS
        have hT : bs (lineT ⟨⟨k, m⟩, n⟩) = T := hT
        obtain rfl : (0 : Int) = E := hEe
        have hb := mayS_num hm
        simp only at hb
        have hlf := (lineT_facts hm).2.1
        have UN2 := fun W (o : Only [] w W) => unline_any (lineT ⟨⟨k, m⟩, n⟩) (by omega) W (HE.out.only o) (by have := o.size; omega)
        rw [unl_back hm, hT] at UN2
        have UN2 := hide (fun W (o : Only [] w W) => (show Calls Tryz.prog 9 #[.string T] W fun e w' => e = .returned (.tuple #[.agg #[.int .i64 k, .int .i64 m, .int .i64 n], .int .i64 0]) ∧ Only [] W w' from UN2 W o))
        have RL := fun W (o : Only [] w W) => rsline_any k m n (by omega) (by omega) (by omega) (by omega) W (HE.out.only o)
        rw [hT] at RL
        have RL := hide RL
        clear hm hb hT hlf
        gi_wp2
        go_wp2_with (first
          | (go_at_call 18; (with_reducible refine (MS.out _).mono ?_); rintro e v1 ⟨rfl, o1⟩; have OV := hide (OV.out.trans0 o1); have KD := hide ((o1.block D (Array.getElem?_eq_some_iff.1 KD.out).1 (by simp)).trans KD.out); have B3 := hide (B3.out.only o1 (by simp)); have B6 := hide (B6.out.only o1 (by simp)); have x0 := B3.out.cell 0; have x1 := B3.out.cell 1; have x2 := B3.out.cell 2; have x6 := B6.out.cell 0; have f6 := B6.out.frozen 0; clear o1)
          | (go_at_call 9; (with_reducible refine (UN2.out _ OV.out).mono ?_); rintro e v1 ⟨rfl, o1⟩; have B17 := hide (Blk.new v1 26 #[.int .i64 k, .int .i64 m, .int .i64 n]); have o2 := o1.trans0 ((Only.refl [] v1).alloc (.cells #[.int .i64 k, .int .i64 m, .int .i64 n] 26)); have OV := hide (OV.out.trans0 o2); have KD := hide ((o2.block D (Array.getElem?_eq_some_iff.1 KD.out).1 (by simp)).trans KD.out); have B3 := hide (B3.out.only o2 (by simp)); have B6 := hide (B6.out.only o2 (by simp)); have x0 := B3.out.cell 0; have x1 := B3.out.cell 1; have x2 := B3.out.cell 2; have x6 := B6.out.cell 0; have f6 := B6.out.frozen 0; clear o1 o2)
          | (go_at_call 19; (with_reducible refine (RL.out _ OV.out).mono ?_); rintro e v2 ⟨rfl, o1⟩; have OV := hide (OV.out.trans0 o1); have KD := hide ((o1.block D (Array.getElem?_eq_some_iff.1 KD.out).1 (by simp)).trans KD.out); have B3 := hide (B3.out.only o1 (by simp)); have B6 := hide (B6.out.only o1 (by simp)); have B17 := hide (B17.out.only o1 (by simp)); have x0 := B3.out.cell 0; have x1 := B3.out.cell 1; have x2 := B3.out.cell 2; have x6 := B6.out.cell 0; have f6 := B6.out.frozen 0; have z0 := B17.out.cell 0; have z1 := B17.out.cell 1; have z2 := B17.out.cell 2; clear o1)
          | (go_at_call 12; (with_reducible refine (num_any _ _).mono ?_); rintro e v2 ⟨rfl, hw⟩; obtain rfl := hw.symm; clear hw)
          | (go_at_call 7; (with_reducible refine (KN.out _ OV.out).mono ?_); rintro e v3 ⟨rfl, o1⟩; have OV := hide (OV.out.trans0 o1); have KD := hide ((o1.block D (Array.getElem?_eq_some_iff.1 KD.out).1 (by simp)).trans KD.out); have B3 := hide (B3.out.only o1 (by simp)); have B6 := hide (B6.out.only o1 (by simp)); have x0 := B3.out.cell 0; have x1 := B3.out.cell 1; have x2 := B3.out.cell 2; have x6 := B6.out.cell 0; have f6 := B6.out.frozen 0; clear o1))
        have qD := set_rec KD.out (X := X + 1) (by omega) (.bool true)
        have bB := B6.out.set_ 0 (.bool true)
        have oV := OV.out.setCell (p := ⟨X + 1, 0, none⟩) (.inr (by simp only; omega)) (.bool true)
        refine ⟨by simp, .inl ⟨_, _, rfl, run_takeDeferred qD, ?_⟩⟩
        have bC := blk_put bB qD
        have y0 := bC.cell 0
        refine ⟨.bool true, ?_, rfl, only_put oV hDw⟩
        simp only [results, Tryz.results3]
        simp [go_sem, y0]
    · exact absurd hpre hx
end Go.Proofs.YteblhklclcjonaaGreatDoor
