/- Script: the walks of both Sames, of Much. No condition but what each theorem says. -/
import Derived.Test.YteblhklclcjonaaGreatDoorStA
import Derived.Test.YteblhklclcjonaaGreatDoorSh1
import Derived.BigRegion
import Derived.BigQuiet
namespace Go.Proofs.YteblhklclcjonaaGreatDoor
open Go.RowKit Go.BigFrame
set_option linter.unusedVariables false
set_option linter.all false
set_option maxRecDepth 100000

/-- The worlds that a region may come to that turns nothing that lay. -/
structure Sub (W0 : World) where
  val : World
  ok : Only [] W0 val
instance (W0 : World) : Nonempty (Sub W0) := ⟨⟨W0, Only.refl [] W0⟩⟩
theorem wp_region_quiet_sub {P : Program} {id : Nat} {Q : Exit → Act → World → Prop} {a : Act} {w : World} {l : List Oper} (hm : P.follows .mixedOrders = true) (hB : Region.lexB .any l.toArray = true)
    (h : wpQuiet P l.toArray (fun w' => ∃ s : Sub w.drew, w' = s.val) (fun a' => ∀ w', (∃ s : Sub w.drew, w' = s.val) → Q .normal a' w') l a) : (Code.region id l.toArray true).wp P Q a w :=
  wp_region_quiet (C := fun w' => ∃ s : Sub w.drew, w' = s.val) hm hB ⟨⟨w.drew, Only.refl _ _⟩, rfl⟩ (by simpa using h)
theorem quiet_sub {P : Program} {f : FuncId} {args : Array Value} {W0 : World} {s : Sub W0} {v : Value} (h : Calls P f args s.val fun e w' => e = .returned v ∧ Only [] s.val w') : Calls P f args s.val fun e w'' => e = .returned v ∧ ∃ s' : Sub W0, w'' = s'.val :=
  h.mono fun e w' ⟨he, ho⟩ => ⟨he, ⟨w', s.ok.trans0 ho⟩, rfl⟩
theorem quiet_sub_same {P : Program} {f : FuncId} {args : Array Value} {W0 : World} {s : Sub W0} {v : Value} (h : Calls P f args s.val fun e w' => e = .returned v ∧ w' = s.val) : Calls P f args s.val fun e w'' => e = .returned v ∧ ∃ s' : Sub W0, w'' = s'.val :=
  h.mono fun e w' ⟨he, hw⟩ => ⟨he, s, hw⟩
/-- Whether two jobs' programs, texts are the same. -/
def psB (J K : Jb) : Bool := eqG J.pn K.pn (fun k => sameB (J.P k).n (J.P k).f (K.P k).n (K.P k).f)
def tsB (J K : Jb) : Bool := eqG J.tn K.tn (fun k => decide (J.T k = K.T k))
def esB (n m : Nat) (f g : Nat → Ev) : Bool := eqG n m (fun k => evEq (f k) (g k))
def hdB (J K : Jb) : Bool := decide (headB (v9 J) = headB (v9 K))
def V64 (J : Jb) : Prop := ∀ q, q < 6 → -9223372036854775808 ≤ v9 J q ∧ v9 J q ≤ 9223372036854775807
theorem bytes_eq {x y : ByteArray} (h : (x.toList == y.toList) = true) : x = y := by
  have h := beq_iff_eq.1 h
  rw [ByteArray.toList_eq, ByteArray.toList_eq] at h
  exact ByteArray.ext (Array.toList_inj.1 h)
theorem bs_inj {a b : List UInt8} (h : bs a = bs b) : a = b := by rw [← bs_list a, ← bs_list b, h]
set_option maxHeartbeats 16000000 in
theorem ssame_any (J : Jb) (A : Option Addr) (n c : Nat) (f : Nat → Ev) (K : Jb) (B : Option Addr) (m d : Nat) (g : Nat → Ev) (w : World) (he : Env w) (hJ : JbAt w J) (hK : JbAt w K) (hJ6 : V64 J) (hK6 : V64 K) (hE : EvAt w A n f) (hF : EvAt w B m g) (hn : n ≤ maxLen) : Calls Tryz.prog 30 #[.agg (sc9 J A n c), .agg (sc9 K B m d)] w fun e w' => e = .returned (.bool (hdB J K && ((psB J K && tsB J K) && esB n m f g))) ∧ Only [] w w' := by
  have PE := fun W (o : Only [] w W) => equalP_any J.pA J.pn J.pc J.P K.pA K.pn K.pc K.P W (hJ.1.only0 o) (hK.1.only0 o) hJ.2.2.1
  have TE := fun W (o : Only [] w W) => equalT_any J.tA J.tn J.tc J.T K.tA K.tn K.tc K.T W (hJ.2.1.only0 o) (hK.2.1.only0 o) hJ.2.2.2
  have EE := fun W (o : Only [] w W) => equalE_any A n c f B m d g W (hE.only0 o) (hF.only0 o) hn
  have H1 := fun W (o : Only [] w W) => head_any (v9 J) hJ6 (.slice J.pA J.pn J.pc) (.slice J.tA J.tn J.tc) W (he.only o)
  have H2 := fun W (o : Only [] w W) => head_any (v9 K) hK6 (.slice K.pA K.pn K.pc) (.slice K.tA K.tn K.tc) W (he.only o)
  unfold job8 at H1 H2
  simp only [v9] at H1 H2
  obtain ⟨pp, hpp⟩ : ∃ x, psB J K = x := ⟨_, rfl⟩
  obtain ⟨tt, htt⟩ : ∃ x, tsB J K = x := ⟨_, rfl⟩
  obtain ⟨ee, hee⟩ : ∃ x, esB n m f g = x := ⟨_, rfl⟩
  obtain ⟨hh, hhh⟩ : ∃ x, hdB J K = x := ⟨_, rfl⟩
  have PE := hide (fun W (o : Only [] w W) => (show Calls Tryz.prog 55 #[.slice J.pA J.pn J.pc, .slice K.pA K.pn K.pc, .func (.func 56) #[] #[]] W fun e w' => e = .returned (.bool pp) ∧ Only [] W w' by rw [← hpp]; exact PE W o))
  have TE := hide (fun W (o : Only [] w W) => (show Calls Tryz.prog 57 #[.slice J.tA J.tn J.tc, .slice K.tA K.tn K.tc] W fun e w' => e = .returned (.bool tt) ∧ Only [] W w' by rw [← htt]; exact TE W o))
  have EE := hide (fun W (o : Only [] w W) => (show Calls Tryz.prog 58 #[.slice A n c, .slice B m d] W fun e w' => e = .returned (.bool ee) ∧ Only [] W w' by rw [← hee]; exact EE W o))
  rw [hpp, htt, hee, hhh]
  unfold hdB at hhh
  obtain ⟨s1, hs1⟩ : ∃ x, bs (headB (v9 J)) = x := ⟨_, rfl⟩
  obtain ⟨s2, hs2⟩ : ∃ x, bs (headB (v9 K)) = x := ⟨_, rfl⟩
  have hq : (s1.toList == s2.toList) = hh := by
    rw [← hhh, ← hs1, ← hs2]
    cases hd : decide (headB (v9 J) = headB (v9 K)) with
    | true => rw [of_decide_eq_true hd]; simp
    | false => exact bytes_ne (fun h => of_decide_eq_false hd (bs_inj h))
  rw [hs1] at H1
  rw [hs2] at H2
  have H1 := hide H1
  have H2 := hide H2
  have HQ := hide hq
  have O2 := hide (((Only.refl [] w).alloc (.cells (sc9 J A n c) 54)).alloc (.cells (sc9 K B m d) 54))
  have B1 := hide ((Blk.new w 54 (sc9 J A n c)).alloc (.cells (sc9 K B m d) 54))
  have B2 := hide (Blk.new (w.alloc (.cells (sc9 J A n c) 54)) 54 (sc9 K B m d))
  simp only [World.size_alloc] at B2
  unfold sc9 at B1 B2 O2
  unfold sc9
  obtain ⟨X, hX⟩ : ∃ X, w.heap.size = X := ⟨_, rfl⟩
  rw [hX] at B1 B2
  have HS := hide (show X + 1 + 1 = ((w.alloc (.cells #[.int .i64 J.t, .int .i64 J.o, .int .i64 J.s, .int .i64 J.q, .int .i64 J.m, .int .i64 J.p, .slice J.pA J.pn J.pc, .slice J.tA J.tn J.tc, .slice A n c] 54)).alloc (.cells #[.int .i64 K.t, .int .i64 K.o, .int .i64 K.s, .int .i64 K.q, .int .i64 K.m, .int .i64 K.p, .slice K.pA K.pn K.pc, .slice K.tA K.tn K.tc, .slice B m d] 54)).heap.size by simp [hX])
  clear he hJ hK hJ6 hK6 hE hF hpp htt hee hhh hs1 hs2 hq
  have x0 := B1.out.cell 0; have x1 := B1.out.cell 1; have x2 := B1.out.cell 2; have x3 := B1.out.cell 3; have x4 := B1.out.cell 4; have x5 := B1.out.cell 5; have x6 := B1.out.cell 6; have x7 := B1.out.cell 7; have x8 := B1.out.cell 8
  have y0 := B2.out.cell 0; have y1 := B2.out.cell 1; have y2 := B2.out.cell 2; have y3 := B2.out.cell 3; have y4 := B2.out.cell 4; have y5 := B2.out.cell 5; have y6 := B2.out.cell 6; have y7 := B2.out.cell 7; have y8 := B2.out.cell 8
  go_enter Tryz.func30, Tryz.ntmps30
  go_wp2_with fail
  go_region
  · obtain ⟨W2, hW2⟩ : ∃ W, (w.alloc (.cells #[.int .i64 J.t, .int .i64 J.o, .int .i64 J.s, .int .i64 J.q, .int .i64 J.m, .int .i64 J.p, .slice J.pA J.pn J.pc, .slice J.tA J.tn J.tc, .slice A n c] 54)).alloc (.cells #[.int .i64 K.t, .int .i64 K.o, .int .i64 K.s, .int .i64 K.q, .int .i64 K.m, .int .i64 K.p, .slice K.pA K.pn K.pc, .slice K.tA K.tn K.tc, .slice B m d] 54) = W := ⟨_, rfl⟩
    rw [hW2] at B1 B2 O2 HS ⊢
    have hP0 : W2.heap.size = X + 1 + 1 := HS.out.symm
    clear hW2 hX HS
    have bA := ((Blk.new W2 52 #[.int .i64 J.t, .int .i64 J.o, .int .i64 J.s, .int .i64 J.q, .int .i64 J.m, .int .i64 J.p, .slice J.pA J.pn J.pc, .slice J.tA J.tn J.tc]).alloc (.cells #[.int .i64 K.t, .int .i64 K.o, .int .i64 K.s, .int .i64 K.q, .int .i64 K.m, .int .i64 K.p, .slice K.pA K.pn K.pc, .slice K.tA K.tn K.tc] 52)).drew
    have bB := (Blk.new (W2.alloc (.cells #[.int .i64 J.t, .int .i64 J.o, .int .i64 J.s, .int .i64 J.q, .int .i64 J.m, .int .i64 J.p, .slice J.pA J.pn J.pc, .slice J.tA J.tn J.tc] 52)) 52 #[.int .i64 K.t, .int .i64 K.o, .int .i64 K.s, .int .i64 K.q, .int .i64 K.m, .int .i64 K.p, .slice K.pA K.pn K.pc, .slice K.tA K.tn K.tc]).drew
    rw [World.size_alloc] at bB
    rw [hP0] at bA bB
    have o9 := (((Only.refl [] W2).alloc (.cells #[.int .i64 J.t, .int .i64 J.o, .int .i64 J.s, .int .i64 J.q, .int .i64 J.m, .int .i64 J.p, .slice J.pA J.pn J.pc, .slice J.tA J.tn J.tc] 52)).alloc (.cells #[.int .i64 K.t, .int .i64 K.o, .int .i64 K.s, .int .i64 K.q, .int .i64 K.m, .int .i64 K.p, .slice K.pA K.pn K.pc, .slice K.tA K.tn K.tc] 52)).drew
    clear x0 x1 x2 x3 x4 x5 x6 x7 x8 y0 y1 y2 y3 y4 y5 y6 y7 y8
    generalize ((W2.alloc (.cells #[.int .i64 J.t, .int .i64 J.o, .int .i64 J.s, .int .i64 J.q, .int .i64 J.m, .int .i64 J.p, .slice J.pA J.pn J.pc, .slice J.tA J.tn J.tc] 52)).alloc (.cells #[.int .i64 K.t, .int .i64 K.o, .int .i64 K.s, .int .i64 K.q, .int .i64 K.m, .int .i64 K.p, .slice K.pA K.pn K.pc, .slice K.tA K.tn K.tc] 52)).drew = W9 at bA bB o9 ⊢
    have O9 := hide (O2.out.trans0 o9)
    have B1 := hide (B1.out.only o9 (by simp))
    have B2 := hide (B2.out.only o9 (by simp))
    have BP := hide bA
    have BQ := hide bB
    clear bA bB o9 hP0 O2
    obtain ⟨P, hP⟩ : ∃ p, X + 1 + 1 = p := ⟨_, rfl⟩
    obtain ⟨Q, hQ⟩ : ∃ p, X + 1 + 1 + 1 = p := ⟨_, rfl⟩
    rw [hQ] at BQ ⊢
    rw [hP] at BP ⊢
    clear hP hQ
    have STAY := hide (fun V (o : Only [] W9 V) => (show V.cell? ⟨P, 0, none⟩ = some (.int .i64 J.t) ∧ V.cell? ⟨P, 1, none⟩ = some (.int .i64 J.o) ∧ V.cell? ⟨P, 2, none⟩ = some (.int .i64 J.s) ∧ V.cell? ⟨P, 3, none⟩ = some (.int .i64 J.q) ∧ V.cell? ⟨P, 4, none⟩ = some (.int .i64 J.m) ∧ V.cell? ⟨P, 5, none⟩ = some (.int .i64 J.p) ∧ V.cell? ⟨P, 6, none⟩ = some (.slice J.pA J.pn J.pc) ∧ V.cell? ⟨P, 7, none⟩ = some (.slice J.tA J.tn J.tc) ∧ V.cell? ⟨Q, 0, none⟩ = some (.int .i64 K.t) ∧ V.cell? ⟨Q, 1, none⟩ = some (.int .i64 K.o) ∧ V.cell? ⟨Q, 2, none⟩ = some (.int .i64 K.s) ∧ V.cell? ⟨Q, 3, none⟩ = some (.int .i64 K.q) ∧ V.cell? ⟨Q, 4, none⟩ = some (.int .i64 K.m) ∧ V.cell? ⟨Q, 5, none⟩ = some (.int .i64 K.p) ∧ V.cell? ⟨Q, 6, none⟩ = some (.slice K.pA K.pn K.pc) ∧ V.cell? ⟨Q, 7, none⟩ = some (.slice K.tA K.tn K.tc) ∧ V.cell? ⟨X, 8, none⟩ = some (.slice A n c) ∧ V.cell? ⟨X + 1, 8, none⟩ = some (.slice B m d) from ⟨(BP.out.only o (by simp)).cell 0, (BP.out.only o (by simp)).cell 1, (BP.out.only o (by simp)).cell 2, (BP.out.only o (by simp)).cell 3, (BP.out.only o (by simp)).cell 4, (BP.out.only o (by simp)).cell 5, (BP.out.only o (by simp)).cell 6, (BP.out.only o (by simp)).cell 7, (BQ.out.only o (by simp)).cell 0, (BQ.out.only o (by simp)).cell 1, (BQ.out.only o (by simp)).cell 2, (BQ.out.only o (by simp)).cell 3, (BQ.out.only o (by simp)).cell 4, (BQ.out.only o (by simp)).cell 5, (BQ.out.only o (by simp)).cell 6, (BQ.out.only o (by simp)).cell 7, (B1.out.only o (by simp)).cell 8, (B2.out.only o (by simp)).cell 8⟩))
    have OD := hide (Only.refl [] W9)
    have kd := STAY.out _ OD.out
    have k1 := kd.2.2.2.2.2.2.1
    have k2 := kd.2.2.2.2.2.2.2.1
    have k3 := kd.2.2.2.2.2.2.2.2.2.2.2.2.2.2.1
    have k4 := kd.2.2.2.2.2.2.2.2.2.2.2.2.2.2.2.1
    clear B1 B2 BP BQ
    cases pp
    · go_wp2_with (go_at_call 55; (with_reducible refine (PE.out _ (O9.out.trans0 OD.out)).mono ?_); rintro e w2 ⟨rfl, o2⟩; have OD := hide (OD.out.trans0 o2); have kd := STAY.out _ OD.out; clear o2)
      have ALL := fun (s : Sub w2.drew) => STAY.out s.val ((OD.out.drew).trans0 s.ok)
      have g0 : ∀ s : Sub w2.drew, s.val.cell? ⟨P, 0, none⟩ = some (.int .i64 J.t) := fun s => (ALL s).1
      have g1 : ∀ s : Sub w2.drew, s.val.cell? ⟨P, 1, none⟩ = some (.int .i64 J.o) := fun s => (ALL s).2.1
      have g2 : ∀ s : Sub w2.drew, s.val.cell? ⟨P, 2, none⟩ = some (.int .i64 J.s) := fun s => (ALL s).2.2.1
      have g3 : ∀ s : Sub w2.drew, s.val.cell? ⟨P, 3, none⟩ = some (.int .i64 J.q) := fun s => (ALL s).2.2.2.1
      have g4 : ∀ s : Sub w2.drew, s.val.cell? ⟨P, 4, none⟩ = some (.int .i64 J.m) := fun s => (ALL s).2.2.2.2.1
      have g5 : ∀ s : Sub w2.drew, s.val.cell? ⟨P, 5, none⟩ = some (.int .i64 J.p) := fun s => (ALL s).2.2.2.2.2.1
      have g6 : ∀ s : Sub w2.drew, s.val.cell? ⟨P, 6, none⟩ = some (.slice J.pA J.pn J.pc) := fun s => (ALL s).2.2.2.2.2.2.1
      have g7 : ∀ s : Sub w2.drew, s.val.cell? ⟨P, 7, none⟩ = some (.slice J.tA J.tn J.tc) := fun s => (ALL s).2.2.2.2.2.2.2.1
      have g8 : ∀ s : Sub w2.drew, s.val.cell? ⟨Q, 0, none⟩ = some (.int .i64 K.t) := fun s => (ALL s).2.2.2.2.2.2.2.2.1
      have g9 : ∀ s : Sub w2.drew, s.val.cell? ⟨Q, 1, none⟩ = some (.int .i64 K.o) := fun s => (ALL s).2.2.2.2.2.2.2.2.2.1
      have g10 : ∀ s : Sub w2.drew, s.val.cell? ⟨Q, 2, none⟩ = some (.int .i64 K.s) := fun s => (ALL s).2.2.2.2.2.2.2.2.2.2.1
      have g11 : ∀ s : Sub w2.drew, s.val.cell? ⟨Q, 3, none⟩ = some (.int .i64 K.q) := fun s => (ALL s).2.2.2.2.2.2.2.2.2.2.2.1
      have g12 : ∀ s : Sub w2.drew, s.val.cell? ⟨Q, 4, none⟩ = some (.int .i64 K.m) := fun s => (ALL s).2.2.2.2.2.2.2.2.2.2.2.2.1
      have g13 : ∀ s : Sub w2.drew, s.val.cell? ⟨Q, 5, none⟩ = some (.int .i64 K.p) := fun s => (ALL s).2.2.2.2.2.2.2.2.2.2.2.2.2.1
      have g14 : ∀ s : Sub w2.drew, s.val.cell? ⟨Q, 6, none⟩ = some (.slice K.pA K.pn K.pc) := fun s => (ALL s).2.2.2.2.2.2.2.2.2.2.2.2.2.2.1
      have g15 : ∀ s : Sub w2.drew, s.val.cell? ⟨Q, 7, none⟩ = some (.slice K.tA K.tn K.tc) := fun s => (ALL s).2.2.2.2.2.2.2.2.2.2.2.2.2.2.2.1
      have g16 : ∀ s : Sub w2.drew, s.val.cell? ⟨X, 8, none⟩ = some (.slice A n c) := fun s => (ALL s).2.2.2.2.2.2.2.2.2.2.2.2.2.2.2.2.1
      have g17 : ∀ s : Sub w2.drew, s.val.cell? ⟨X + 1, 8, none⟩ = some (.slice B m d) := fun s => (ALL s).2.2.2.2.2.2.2.2.2.2.2.2.2.2.2.2.2
      have H1q := hide (fun (s : Sub w2.drew) => H1.out s.val (O9.out.trans0 ((OD.out.drew).trans0 s.ok)))
      have H2q := hide (fun (s : Sub w2.drew) => H2.out s.val (O9.out.trans0 ((OD.out.drew).trans0 s.ok)))
      have EEq := hide (fun (s : Sub w2.drew) => EE.out s.val (O9.out.trans0 ((OD.out.drew).trans0 s.ok)))
      clear k1 k2 k3 k4 PE TE ALL kd H1 H2 EE STAY
      cases hh
      · have hq := HQ.out
        refine wp_region_quiet_sub (by kernel_rfl) (by kernel_rfl) ?_
        repeat (go_big_quiet_step (first
          | (go_at_call 44; first | with_reducible exact quiet_sub (H1q.out _) | with_reducible exact quiet_sub (H2q.out _))
          | (go_at_call 58; with_reducible exact quiet_sub (EEq.out _))))
        refine wpQuiet_nil ?_
        rintro _ ⟨s, rfl⟩
        go_wp2_with fail
        go_ret
        exact ⟨rfl, O9.out.trans0 ((OD.out.drew).trans0 s.ok)⟩
      · obtain rfl : s1 = s2 := bytes_eq HQ.out
        clear HQ
        refine wp_region_quiet_sub (by kernel_rfl) (by kernel_rfl) ?_
        repeat (go_big_quiet_step (first
          | (go_at_call 44; first | with_reducible exact quiet_sub (H1q.out _) | with_reducible exact quiet_sub (H2q.out _))
          | (go_at_call 58; with_reducible exact quiet_sub (EEq.out _))))
        refine wpQuiet_nil ?_
        rintro _ ⟨s, rfl⟩
        go_wp2_with fail
        go_ret
        exact ⟨rfl, O9.out.trans0 ((OD.out.drew).trans0 s.ok)⟩
    · cases tt
      · go_wp2_with (first
          | (go_at_call 55; (with_reducible refine (PE.out _ (O9.out.trans0 OD.out)).mono ?_); rintro e w2 ⟨rfl, o2⟩; have OD := hide (OD.out.trans0 o2); have kd := STAY.out _ OD.out; have k2 := kd.2.2.2.2.2.2.2.1; have k4 := kd.2.2.2.2.2.2.2.2.2.2.2.2.2.2.2.1; clear o2)
          | (go_at_call 57; (with_reducible refine (TE.out _ (O9.out.trans0 OD.out)).mono ?_); rintro e w2 ⟨rfl, o2⟩; have OD := hide (OD.out.trans0 o2); have kd := STAY.out _ OD.out; clear o2))
        have ALL := fun (s : Sub w2.drew) => STAY.out s.val ((OD.out.drew).trans0 s.ok)
        have g0 : ∀ s : Sub w2.drew, s.val.cell? ⟨P, 0, none⟩ = some (.int .i64 J.t) := fun s => (ALL s).1
        have g1 : ∀ s : Sub w2.drew, s.val.cell? ⟨P, 1, none⟩ = some (.int .i64 J.o) := fun s => (ALL s).2.1
        have g2 : ∀ s : Sub w2.drew, s.val.cell? ⟨P, 2, none⟩ = some (.int .i64 J.s) := fun s => (ALL s).2.2.1
        have g3 : ∀ s : Sub w2.drew, s.val.cell? ⟨P, 3, none⟩ = some (.int .i64 J.q) := fun s => (ALL s).2.2.2.1
        have g4 : ∀ s : Sub w2.drew, s.val.cell? ⟨P, 4, none⟩ = some (.int .i64 J.m) := fun s => (ALL s).2.2.2.2.1
        have g5 : ∀ s : Sub w2.drew, s.val.cell? ⟨P, 5, none⟩ = some (.int .i64 J.p) := fun s => (ALL s).2.2.2.2.2.1
        have g6 : ∀ s : Sub w2.drew, s.val.cell? ⟨P, 6, none⟩ = some (.slice J.pA J.pn J.pc) := fun s => (ALL s).2.2.2.2.2.2.1
        have g7 : ∀ s : Sub w2.drew, s.val.cell? ⟨P, 7, none⟩ = some (.slice J.tA J.tn J.tc) := fun s => (ALL s).2.2.2.2.2.2.2.1
        have g8 : ∀ s : Sub w2.drew, s.val.cell? ⟨Q, 0, none⟩ = some (.int .i64 K.t) := fun s => (ALL s).2.2.2.2.2.2.2.2.1
        have g9 : ∀ s : Sub w2.drew, s.val.cell? ⟨Q, 1, none⟩ = some (.int .i64 K.o) := fun s => (ALL s).2.2.2.2.2.2.2.2.2.1
        have g10 : ∀ s : Sub w2.drew, s.val.cell? ⟨Q, 2, none⟩ = some (.int .i64 K.s) := fun s => (ALL s).2.2.2.2.2.2.2.2.2.2.1
        have g11 : ∀ s : Sub w2.drew, s.val.cell? ⟨Q, 3, none⟩ = some (.int .i64 K.q) := fun s => (ALL s).2.2.2.2.2.2.2.2.2.2.2.1
        have g12 : ∀ s : Sub w2.drew, s.val.cell? ⟨Q, 4, none⟩ = some (.int .i64 K.m) := fun s => (ALL s).2.2.2.2.2.2.2.2.2.2.2.2.1
        have g13 : ∀ s : Sub w2.drew, s.val.cell? ⟨Q, 5, none⟩ = some (.int .i64 K.p) := fun s => (ALL s).2.2.2.2.2.2.2.2.2.2.2.2.2.1
        have g14 : ∀ s : Sub w2.drew, s.val.cell? ⟨Q, 6, none⟩ = some (.slice K.pA K.pn K.pc) := fun s => (ALL s).2.2.2.2.2.2.2.2.2.2.2.2.2.2.1
        have g15 : ∀ s : Sub w2.drew, s.val.cell? ⟨Q, 7, none⟩ = some (.slice K.tA K.tn K.tc) := fun s => (ALL s).2.2.2.2.2.2.2.2.2.2.2.2.2.2.2.1
        have g16 : ∀ s : Sub w2.drew, s.val.cell? ⟨X, 8, none⟩ = some (.slice A n c) := fun s => (ALL s).2.2.2.2.2.2.2.2.2.2.2.2.2.2.2.2.1
        have g17 : ∀ s : Sub w2.drew, s.val.cell? ⟨X + 1, 8, none⟩ = some (.slice B m d) := fun s => (ALL s).2.2.2.2.2.2.2.2.2.2.2.2.2.2.2.2.2
        have H1q := hide (fun (s : Sub w2.drew) => H1.out s.val (O9.out.trans0 ((OD.out.drew).trans0 s.ok)))
        have H2q := hide (fun (s : Sub w2.drew) => H2.out s.val (O9.out.trans0 ((OD.out.drew).trans0 s.ok)))
        have EEq := hide (fun (s : Sub w2.drew) => EE.out s.val (O9.out.trans0 ((OD.out.drew).trans0 s.ok)))
        clear k1 k2 k3 k4 PE TE ALL kd H1 H2 EE STAY
        cases hh
        · have hq := HQ.out
          refine wp_region_quiet_sub (by kernel_rfl) (by kernel_rfl) ?_
          repeat (go_big_quiet_step (first
            | (go_at_call 44; first | with_reducible exact quiet_sub (H1q.out _) | with_reducible exact quiet_sub (H2q.out _))
            | (go_at_call 58; with_reducible exact quiet_sub (EEq.out _))))
          refine wpQuiet_nil ?_
          rintro _ ⟨s, rfl⟩
          go_wp2_with fail
          go_ret
          exact ⟨rfl, O9.out.trans0 ((OD.out.drew).trans0 s.ok)⟩
        · obtain rfl : s1 = s2 := bytes_eq HQ.out
          clear HQ
          refine wp_region_quiet_sub (by kernel_rfl) (by kernel_rfl) ?_
          repeat (go_big_quiet_step (first
            | (go_at_call 44; first | with_reducible exact quiet_sub (H1q.out _) | with_reducible exact quiet_sub (H2q.out _))
            | (go_at_call 58; with_reducible exact quiet_sub (EEq.out _))))
          refine wpQuiet_nil ?_
          rintro _ ⟨s, rfl⟩
          go_wp2_with fail
          go_ret
          exact ⟨rfl, O9.out.trans0 ((OD.out.drew).trans0 s.ok)⟩
      · go_wp2_with (first
          | (go_at_call 55; (with_reducible refine (PE.out _ (O9.out.trans0 OD.out)).mono ?_); rintro e w2 ⟨rfl, o2⟩; have OD := hide (OD.out.trans0 o2); have kd := STAY.out _ OD.out; have k2 := kd.2.2.2.2.2.2.2.1; have k4 := kd.2.2.2.2.2.2.2.2.2.2.2.2.2.2.2.1; clear o2)
          | (go_at_call 57; (with_reducible refine (TE.out _ (O9.out.trans0 OD.out)).mono ?_); rintro e w2 ⟨rfl, o2⟩; have OD := hide (OD.out.trans0 o2); have kd := STAY.out _ OD.out; clear o2))
        have ALL := fun (s : Sub w2.drew) => STAY.out s.val ((OD.out.drew).trans0 s.ok)
        have g0 : ∀ s : Sub w2.drew, s.val.cell? ⟨P, 0, none⟩ = some (.int .i64 J.t) := fun s => (ALL s).1
        have g1 : ∀ s : Sub w2.drew, s.val.cell? ⟨P, 1, none⟩ = some (.int .i64 J.o) := fun s => (ALL s).2.1
        have g2 : ∀ s : Sub w2.drew, s.val.cell? ⟨P, 2, none⟩ = some (.int .i64 J.s) := fun s => (ALL s).2.2.1
        have g3 : ∀ s : Sub w2.drew, s.val.cell? ⟨P, 3, none⟩ = some (.int .i64 J.q) := fun s => (ALL s).2.2.2.1
        have g4 : ∀ s : Sub w2.drew, s.val.cell? ⟨P, 4, none⟩ = some (.int .i64 J.m) := fun s => (ALL s).2.2.2.2.1
        have g5 : ∀ s : Sub w2.drew, s.val.cell? ⟨P, 5, none⟩ = some (.int .i64 J.p) := fun s => (ALL s).2.2.2.2.2.1
        have g6 : ∀ s : Sub w2.drew, s.val.cell? ⟨P, 6, none⟩ = some (.slice J.pA J.pn J.pc) := fun s => (ALL s).2.2.2.2.2.2.1
        have g7 : ∀ s : Sub w2.drew, s.val.cell? ⟨P, 7, none⟩ = some (.slice J.tA J.tn J.tc) := fun s => (ALL s).2.2.2.2.2.2.2.1
        have g8 : ∀ s : Sub w2.drew, s.val.cell? ⟨Q, 0, none⟩ = some (.int .i64 K.t) := fun s => (ALL s).2.2.2.2.2.2.2.2.1
        have g9 : ∀ s : Sub w2.drew, s.val.cell? ⟨Q, 1, none⟩ = some (.int .i64 K.o) := fun s => (ALL s).2.2.2.2.2.2.2.2.2.1
        have g10 : ∀ s : Sub w2.drew, s.val.cell? ⟨Q, 2, none⟩ = some (.int .i64 K.s) := fun s => (ALL s).2.2.2.2.2.2.2.2.2.2.1
        have g11 : ∀ s : Sub w2.drew, s.val.cell? ⟨Q, 3, none⟩ = some (.int .i64 K.q) := fun s => (ALL s).2.2.2.2.2.2.2.2.2.2.2.1
        have g12 : ∀ s : Sub w2.drew, s.val.cell? ⟨Q, 4, none⟩ = some (.int .i64 K.m) := fun s => (ALL s).2.2.2.2.2.2.2.2.2.2.2.2.1
        have g13 : ∀ s : Sub w2.drew, s.val.cell? ⟨Q, 5, none⟩ = some (.int .i64 K.p) := fun s => (ALL s).2.2.2.2.2.2.2.2.2.2.2.2.2.1
        have g14 : ∀ s : Sub w2.drew, s.val.cell? ⟨Q, 6, none⟩ = some (.slice K.pA K.pn K.pc) := fun s => (ALL s).2.2.2.2.2.2.2.2.2.2.2.2.2.2.1
        have g15 : ∀ s : Sub w2.drew, s.val.cell? ⟨Q, 7, none⟩ = some (.slice K.tA K.tn K.tc) := fun s => (ALL s).2.2.2.2.2.2.2.2.2.2.2.2.2.2.2.1
        have g16 : ∀ s : Sub w2.drew, s.val.cell? ⟨X, 8, none⟩ = some (.slice A n c) := fun s => (ALL s).2.2.2.2.2.2.2.2.2.2.2.2.2.2.2.2.1
        have g17 : ∀ s : Sub w2.drew, s.val.cell? ⟨X + 1, 8, none⟩ = some (.slice B m d) := fun s => (ALL s).2.2.2.2.2.2.2.2.2.2.2.2.2.2.2.2.2
        have H1q := hide (fun (s : Sub w2.drew) => H1.out s.val (O9.out.trans0 ((OD.out.drew).trans0 s.ok)))
        have H2q := hide (fun (s : Sub w2.drew) => H2.out s.val (O9.out.trans0 ((OD.out.drew).trans0 s.ok)))
        have EEq := hide (fun (s : Sub w2.drew) => EE.out s.val (O9.out.trans0 ((OD.out.drew).trans0 s.ok)))
        clear k1 k2 k3 k4 PE TE ALL kd H1 H2 EE STAY
        cases hh
        · have hq := HQ.out
          refine wp_region_quiet_sub (by kernel_rfl) (by kernel_rfl) ?_
          repeat (go_big_quiet_step (first
            | (go_at_call 44; first | with_reducible exact quiet_sub (H1q.out _) | with_reducible exact quiet_sub (H2q.out _))
            | (go_at_call 58; with_reducible exact quiet_sub (EEq.out _))))
          refine wpQuiet_nil ?_
          rintro _ ⟨s, rfl⟩
          go_wp2_with fail
          go_ret
          exact ⟨rfl, O9.out.trans0 ((OD.out.drew).trans0 s.ok)⟩
        · obtain rfl : s1 = s2 := bytes_eq HQ.out
          clear HQ
          refine wp_region_quiet_sub (by kernel_rfl) (by kernel_rfl) ?_
          repeat (go_big_quiet_step (first
            | (go_at_call 44; first | with_reducible exact quiet_sub (H1q.out _) | with_reducible exact quiet_sub (H2q.out _))
            | (go_at_call 58; with_reducible exact quiet_sub (EEq.out _))))
          refine wpQuiet_nil ?_
          rintro _ ⟨s, rfl⟩
          go_wp2_with fail
          go_ret
          exact ⟨rfl, O9.out.trans0 ((OD.out.drew).trans0 s.ok)⟩
  · obtain ⟨W2, hW2⟩ : ∃ W, (w.alloc (.cells #[.int .i64 J.t, .int .i64 J.o, .int .i64 J.s, .int .i64 J.q, .int .i64 J.m, .int .i64 J.p, .slice J.pA J.pn J.pc, .slice J.tA J.tn J.tc, .slice A n c] 54)).alloc (.cells #[.int .i64 K.t, .int .i64 K.o, .int .i64 K.s, .int .i64 K.q, .int .i64 K.m, .int .i64 K.p, .slice K.pA K.pn K.pc, .slice K.tA K.tn K.tc, .slice B m d] 54) = W := ⟨_, rfl⟩
    rw [hW2] at B1 B2 O2 HS ⊢
    have hP0 : W2.heap.size = X + 1 + 1 := HS.out.symm
    clear hW2 hX HS
    have bA := ((Blk.new W2 52 #[.int .i64 K.t, .int .i64 K.o, .int .i64 K.s, .int .i64 K.q, .int .i64 K.m, .int .i64 K.p, .slice K.pA K.pn K.pc, .slice K.tA K.tn K.tc]).alloc (.cells #[.int .i64 J.t, .int .i64 J.o, .int .i64 J.s, .int .i64 J.q, .int .i64 J.m, .int .i64 J.p, .slice J.pA J.pn J.pc, .slice J.tA J.tn J.tc] 52)).drew
    have bB := (Blk.new (W2.alloc (.cells #[.int .i64 K.t, .int .i64 K.o, .int .i64 K.s, .int .i64 K.q, .int .i64 K.m, .int .i64 K.p, .slice K.pA K.pn K.pc, .slice K.tA K.tn K.tc] 52)) 52 #[.int .i64 J.t, .int .i64 J.o, .int .i64 J.s, .int .i64 J.q, .int .i64 J.m, .int .i64 J.p, .slice J.pA J.pn J.pc, .slice J.tA J.tn J.tc]).drew
    rw [World.size_alloc] at bB
    rw [hP0] at bA bB
    have o9 := (((Only.refl [] W2).alloc (.cells #[.int .i64 K.t, .int .i64 K.o, .int .i64 K.s, .int .i64 K.q, .int .i64 K.m, .int .i64 K.p, .slice K.pA K.pn K.pc, .slice K.tA K.tn K.tc] 52)).alloc (.cells #[.int .i64 J.t, .int .i64 J.o, .int .i64 J.s, .int .i64 J.q, .int .i64 J.m, .int .i64 J.p, .slice J.pA J.pn J.pc, .slice J.tA J.tn J.tc] 52)).drew
    clear x0 x1 x2 x3 x4 x5 x6 x7 x8 y0 y1 y2 y3 y4 y5 y6 y7 y8
    generalize ((W2.alloc (.cells #[.int .i64 K.t, .int .i64 K.o, .int .i64 K.s, .int .i64 K.q, .int .i64 K.m, .int .i64 K.p, .slice K.pA K.pn K.pc, .slice K.tA K.tn K.tc] 52)).alloc (.cells #[.int .i64 J.t, .int .i64 J.o, .int .i64 J.s, .int .i64 J.q, .int .i64 J.m, .int .i64 J.p, .slice J.pA J.pn J.pc, .slice J.tA J.tn J.tc] 52)).drew = W9 at bA bB o9 ⊢
    have O9 := hide (O2.out.trans0 o9)
    have B1 := hide (B1.out.only o9 (by simp))
    have B2 := hide (B2.out.only o9 (by simp))
    have BP := hide bB
    have BQ := hide bA
    clear bA bB o9 hP0 O2
    obtain ⟨P, hP⟩ : ∃ p, X + 1 + 1 + 1 = p := ⟨_, rfl⟩
    obtain ⟨Q, hQ⟩ : ∃ p, X + 1 + 1 = p := ⟨_, rfl⟩
    rw [hP] at BP ⊢
    rw [hQ] at BQ ⊢
    clear hP hQ
    have STAY := hide (fun V (o : Only [] W9 V) => (show V.cell? ⟨P, 0, none⟩ = some (.int .i64 J.t) ∧ V.cell? ⟨P, 1, none⟩ = some (.int .i64 J.o) ∧ V.cell? ⟨P, 2, none⟩ = some (.int .i64 J.s) ∧ V.cell? ⟨P, 3, none⟩ = some (.int .i64 J.q) ∧ V.cell? ⟨P, 4, none⟩ = some (.int .i64 J.m) ∧ V.cell? ⟨P, 5, none⟩ = some (.int .i64 J.p) ∧ V.cell? ⟨P, 6, none⟩ = some (.slice J.pA J.pn J.pc) ∧ V.cell? ⟨P, 7, none⟩ = some (.slice J.tA J.tn J.tc) ∧ V.cell? ⟨Q, 0, none⟩ = some (.int .i64 K.t) ∧ V.cell? ⟨Q, 1, none⟩ = some (.int .i64 K.o) ∧ V.cell? ⟨Q, 2, none⟩ = some (.int .i64 K.s) ∧ V.cell? ⟨Q, 3, none⟩ = some (.int .i64 K.q) ∧ V.cell? ⟨Q, 4, none⟩ = some (.int .i64 K.m) ∧ V.cell? ⟨Q, 5, none⟩ = some (.int .i64 K.p) ∧ V.cell? ⟨Q, 6, none⟩ = some (.slice K.pA K.pn K.pc) ∧ V.cell? ⟨Q, 7, none⟩ = some (.slice K.tA K.tn K.tc) ∧ V.cell? ⟨X, 8, none⟩ = some (.slice A n c) ∧ V.cell? ⟨X + 1, 8, none⟩ = some (.slice B m d) from ⟨(BP.out.only o (by simp)).cell 0, (BP.out.only o (by simp)).cell 1, (BP.out.only o (by simp)).cell 2, (BP.out.only o (by simp)).cell 3, (BP.out.only o (by simp)).cell 4, (BP.out.only o (by simp)).cell 5, (BP.out.only o (by simp)).cell 6, (BP.out.only o (by simp)).cell 7, (BQ.out.only o (by simp)).cell 0, (BQ.out.only o (by simp)).cell 1, (BQ.out.only o (by simp)).cell 2, (BQ.out.only o (by simp)).cell 3, (BQ.out.only o (by simp)).cell 4, (BQ.out.only o (by simp)).cell 5, (BQ.out.only o (by simp)).cell 6, (BQ.out.only o (by simp)).cell 7, (B1.out.only o (by simp)).cell 8, (B2.out.only o (by simp)).cell 8⟩))
    have OD := hide (Only.refl [] W9)
    have kd := STAY.out _ OD.out
    have k1 := kd.2.2.2.2.2.2.1
    have k2 := kd.2.2.2.2.2.2.2.1
    have k3 := kd.2.2.2.2.2.2.2.2.2.2.2.2.2.2.1
    have k4 := kd.2.2.2.2.2.2.2.2.2.2.2.2.2.2.2.1
    clear B1 B2 BP BQ
    cases pp
    · go_wp2_with (go_at_call 55; (with_reducible refine (PE.out _ (O9.out.trans0 OD.out)).mono ?_); rintro e w2 ⟨rfl, o2⟩; have OD := hide (OD.out.trans0 o2); have kd := STAY.out _ OD.out; clear o2)
      have ALL := fun (s : Sub w2.drew) => STAY.out s.val ((OD.out.drew).trans0 s.ok)
      have g0 : ∀ s : Sub w2.drew, s.val.cell? ⟨P, 0, none⟩ = some (.int .i64 J.t) := fun s => (ALL s).1
      have g1 : ∀ s : Sub w2.drew, s.val.cell? ⟨P, 1, none⟩ = some (.int .i64 J.o) := fun s => (ALL s).2.1
      have g2 : ∀ s : Sub w2.drew, s.val.cell? ⟨P, 2, none⟩ = some (.int .i64 J.s) := fun s => (ALL s).2.2.1
      have g3 : ∀ s : Sub w2.drew, s.val.cell? ⟨P, 3, none⟩ = some (.int .i64 J.q) := fun s => (ALL s).2.2.2.1
      have g4 : ∀ s : Sub w2.drew, s.val.cell? ⟨P, 4, none⟩ = some (.int .i64 J.m) := fun s => (ALL s).2.2.2.2.1
      have g5 : ∀ s : Sub w2.drew, s.val.cell? ⟨P, 5, none⟩ = some (.int .i64 J.p) := fun s => (ALL s).2.2.2.2.2.1
      have g6 : ∀ s : Sub w2.drew, s.val.cell? ⟨P, 6, none⟩ = some (.slice J.pA J.pn J.pc) := fun s => (ALL s).2.2.2.2.2.2.1
      have g7 : ∀ s : Sub w2.drew, s.val.cell? ⟨P, 7, none⟩ = some (.slice J.tA J.tn J.tc) := fun s => (ALL s).2.2.2.2.2.2.2.1
      have g8 : ∀ s : Sub w2.drew, s.val.cell? ⟨Q, 0, none⟩ = some (.int .i64 K.t) := fun s => (ALL s).2.2.2.2.2.2.2.2.1
      have g9 : ∀ s : Sub w2.drew, s.val.cell? ⟨Q, 1, none⟩ = some (.int .i64 K.o) := fun s => (ALL s).2.2.2.2.2.2.2.2.2.1
      have g10 : ∀ s : Sub w2.drew, s.val.cell? ⟨Q, 2, none⟩ = some (.int .i64 K.s) := fun s => (ALL s).2.2.2.2.2.2.2.2.2.2.1
      have g11 : ∀ s : Sub w2.drew, s.val.cell? ⟨Q, 3, none⟩ = some (.int .i64 K.q) := fun s => (ALL s).2.2.2.2.2.2.2.2.2.2.2.1
      have g12 : ∀ s : Sub w2.drew, s.val.cell? ⟨Q, 4, none⟩ = some (.int .i64 K.m) := fun s => (ALL s).2.2.2.2.2.2.2.2.2.2.2.2.1
      have g13 : ∀ s : Sub w2.drew, s.val.cell? ⟨Q, 5, none⟩ = some (.int .i64 K.p) := fun s => (ALL s).2.2.2.2.2.2.2.2.2.2.2.2.2.1
      have g14 : ∀ s : Sub w2.drew, s.val.cell? ⟨Q, 6, none⟩ = some (.slice K.pA K.pn K.pc) := fun s => (ALL s).2.2.2.2.2.2.2.2.2.2.2.2.2.2.1
      have g15 : ∀ s : Sub w2.drew, s.val.cell? ⟨Q, 7, none⟩ = some (.slice K.tA K.tn K.tc) := fun s => (ALL s).2.2.2.2.2.2.2.2.2.2.2.2.2.2.2.1
      have g16 : ∀ s : Sub w2.drew, s.val.cell? ⟨X, 8, none⟩ = some (.slice A n c) := fun s => (ALL s).2.2.2.2.2.2.2.2.2.2.2.2.2.2.2.2.1
      have g17 : ∀ s : Sub w2.drew, s.val.cell? ⟨X + 1, 8, none⟩ = some (.slice B m d) := fun s => (ALL s).2.2.2.2.2.2.2.2.2.2.2.2.2.2.2.2.2
      have H1q := hide (fun (s : Sub w2.drew) => H1.out s.val (O9.out.trans0 ((OD.out.drew).trans0 s.ok)))
      have H2q := hide (fun (s : Sub w2.drew) => H2.out s.val (O9.out.trans0 ((OD.out.drew).trans0 s.ok)))
      have EEq := hide (fun (s : Sub w2.drew) => EE.out s.val (O9.out.trans0 ((OD.out.drew).trans0 s.ok)))
      clear k1 k2 k3 k4 PE TE ALL kd H1 H2 EE STAY
      cases hh
      · have hq := HQ.out
        refine wp_region_quiet_sub (by kernel_rfl) (by kernel_rfl) ?_
        repeat (go_big_quiet_step (first
          | (go_at_call 44; first | with_reducible exact quiet_sub (H1q.out _) | with_reducible exact quiet_sub (H2q.out _))
          | (go_at_call 58; with_reducible exact quiet_sub (EEq.out _))))
        refine wpQuiet_nil ?_
        rintro _ ⟨s, rfl⟩
        go_wp2_with fail
        go_ret
        exact ⟨rfl, O9.out.trans0 ((OD.out.drew).trans0 s.ok)⟩
      · obtain rfl : s1 = s2 := bytes_eq HQ.out
        clear HQ
        refine wp_region_quiet_sub (by kernel_rfl) (by kernel_rfl) ?_
        repeat (go_big_quiet_step (first
          | (go_at_call 44; first | with_reducible exact quiet_sub (H1q.out _) | with_reducible exact quiet_sub (H2q.out _))
          | (go_at_call 58; with_reducible exact quiet_sub (EEq.out _))))
        refine wpQuiet_nil ?_
        rintro _ ⟨s, rfl⟩
        go_wp2_with fail
        go_ret
        exact ⟨rfl, O9.out.trans0 ((OD.out.drew).trans0 s.ok)⟩
    · cases tt
      · go_wp2_with (first
          | (go_at_call 55; (with_reducible refine (PE.out _ (O9.out.trans0 OD.out)).mono ?_); rintro e w2 ⟨rfl, o2⟩; have OD := hide (OD.out.trans0 o2); have kd := STAY.out _ OD.out; have k2 := kd.2.2.2.2.2.2.2.1; have k4 := kd.2.2.2.2.2.2.2.2.2.2.2.2.2.2.2.1; clear o2)
          | (go_at_call 57; (with_reducible refine (TE.out _ (O9.out.trans0 OD.out)).mono ?_); rintro e w2 ⟨rfl, o2⟩; have OD := hide (OD.out.trans0 o2); have kd := STAY.out _ OD.out; clear o2))
        have ALL := fun (s : Sub w2.drew) => STAY.out s.val ((OD.out.drew).trans0 s.ok)
        have g0 : ∀ s : Sub w2.drew, s.val.cell? ⟨P, 0, none⟩ = some (.int .i64 J.t) := fun s => (ALL s).1
        have g1 : ∀ s : Sub w2.drew, s.val.cell? ⟨P, 1, none⟩ = some (.int .i64 J.o) := fun s => (ALL s).2.1
        have g2 : ∀ s : Sub w2.drew, s.val.cell? ⟨P, 2, none⟩ = some (.int .i64 J.s) := fun s => (ALL s).2.2.1
        have g3 : ∀ s : Sub w2.drew, s.val.cell? ⟨P, 3, none⟩ = some (.int .i64 J.q) := fun s => (ALL s).2.2.2.1
        have g4 : ∀ s : Sub w2.drew, s.val.cell? ⟨P, 4, none⟩ = some (.int .i64 J.m) := fun s => (ALL s).2.2.2.2.1
        have g5 : ∀ s : Sub w2.drew, s.val.cell? ⟨P, 5, none⟩ = some (.int .i64 J.p) := fun s => (ALL s).2.2.2.2.2.1
        have g6 : ∀ s : Sub w2.drew, s.val.cell? ⟨P, 6, none⟩ = some (.slice J.pA J.pn J.pc) := fun s => (ALL s).2.2.2.2.2.2.1
        have g7 : ∀ s : Sub w2.drew, s.val.cell? ⟨P, 7, none⟩ = some (.slice J.tA J.tn J.tc) := fun s => (ALL s).2.2.2.2.2.2.2.1
        have g8 : ∀ s : Sub w2.drew, s.val.cell? ⟨Q, 0, none⟩ = some (.int .i64 K.t) := fun s => (ALL s).2.2.2.2.2.2.2.2.1
        have g9 : ∀ s : Sub w2.drew, s.val.cell? ⟨Q, 1, none⟩ = some (.int .i64 K.o) := fun s => (ALL s).2.2.2.2.2.2.2.2.2.1
        have g10 : ∀ s : Sub w2.drew, s.val.cell? ⟨Q, 2, none⟩ = some (.int .i64 K.s) := fun s => (ALL s).2.2.2.2.2.2.2.2.2.2.1
        have g11 : ∀ s : Sub w2.drew, s.val.cell? ⟨Q, 3, none⟩ = some (.int .i64 K.q) := fun s => (ALL s).2.2.2.2.2.2.2.2.2.2.2.1
        have g12 : ∀ s : Sub w2.drew, s.val.cell? ⟨Q, 4, none⟩ = some (.int .i64 K.m) := fun s => (ALL s).2.2.2.2.2.2.2.2.2.2.2.2.1
        have g13 : ∀ s : Sub w2.drew, s.val.cell? ⟨Q, 5, none⟩ = some (.int .i64 K.p) := fun s => (ALL s).2.2.2.2.2.2.2.2.2.2.2.2.2.1
        have g14 : ∀ s : Sub w2.drew, s.val.cell? ⟨Q, 6, none⟩ = some (.slice K.pA K.pn K.pc) := fun s => (ALL s).2.2.2.2.2.2.2.2.2.2.2.2.2.2.1
        have g15 : ∀ s : Sub w2.drew, s.val.cell? ⟨Q, 7, none⟩ = some (.slice K.tA K.tn K.tc) := fun s => (ALL s).2.2.2.2.2.2.2.2.2.2.2.2.2.2.2.1
        have g16 : ∀ s : Sub w2.drew, s.val.cell? ⟨X, 8, none⟩ = some (.slice A n c) := fun s => (ALL s).2.2.2.2.2.2.2.2.2.2.2.2.2.2.2.2.1
        have g17 : ∀ s : Sub w2.drew, s.val.cell? ⟨X + 1, 8, none⟩ = some (.slice B m d) := fun s => (ALL s).2.2.2.2.2.2.2.2.2.2.2.2.2.2.2.2.2
        have H1q := hide (fun (s : Sub w2.drew) => H1.out s.val (O9.out.trans0 ((OD.out.drew).trans0 s.ok)))
        have H2q := hide (fun (s : Sub w2.drew) => H2.out s.val (O9.out.trans0 ((OD.out.drew).trans0 s.ok)))
        have EEq := hide (fun (s : Sub w2.drew) => EE.out s.val (O9.out.trans0 ((OD.out.drew).trans0 s.ok)))
        clear k1 k2 k3 k4 PE TE ALL kd H1 H2 EE STAY
        cases hh
        · have hq := HQ.out
          refine wp_region_quiet_sub (by kernel_rfl) (by kernel_rfl) ?_
          repeat (go_big_quiet_step (first
            | (go_at_call 44; first | with_reducible exact quiet_sub (H1q.out _) | with_reducible exact quiet_sub (H2q.out _))
            | (go_at_call 58; with_reducible exact quiet_sub (EEq.out _))))
          refine wpQuiet_nil ?_
          rintro _ ⟨s, rfl⟩
          go_wp2_with fail
          go_ret
          exact ⟨rfl, O9.out.trans0 ((OD.out.drew).trans0 s.ok)⟩
        · obtain rfl : s1 = s2 := bytes_eq HQ.out
          clear HQ
          refine wp_region_quiet_sub (by kernel_rfl) (by kernel_rfl) ?_
          repeat (go_big_quiet_step (first
            | (go_at_call 44; first | with_reducible exact quiet_sub (H1q.out _) | with_reducible exact quiet_sub (H2q.out _))
            | (go_at_call 58; with_reducible exact quiet_sub (EEq.out _))))
          refine wpQuiet_nil ?_
          rintro _ ⟨s, rfl⟩
          go_wp2_with fail
          go_ret
          exact ⟨rfl, O9.out.trans0 ((OD.out.drew).trans0 s.ok)⟩
      · go_wp2_with (first
          | (go_at_call 55; (with_reducible refine (PE.out _ (O9.out.trans0 OD.out)).mono ?_); rintro e w2 ⟨rfl, o2⟩; have OD := hide (OD.out.trans0 o2); have kd := STAY.out _ OD.out; have k2 := kd.2.2.2.2.2.2.2.1; have k4 := kd.2.2.2.2.2.2.2.2.2.2.2.2.2.2.2.1; clear o2)
          | (go_at_call 57; (with_reducible refine (TE.out _ (O9.out.trans0 OD.out)).mono ?_); rintro e w2 ⟨rfl, o2⟩; have OD := hide (OD.out.trans0 o2); have kd := STAY.out _ OD.out; clear o2))
        have ALL := fun (s : Sub w2.drew) => STAY.out s.val ((OD.out.drew).trans0 s.ok)
        have g0 : ∀ s : Sub w2.drew, s.val.cell? ⟨P, 0, none⟩ = some (.int .i64 J.t) := fun s => (ALL s).1
        have g1 : ∀ s : Sub w2.drew, s.val.cell? ⟨P, 1, none⟩ = some (.int .i64 J.o) := fun s => (ALL s).2.1
        have g2 : ∀ s : Sub w2.drew, s.val.cell? ⟨P, 2, none⟩ = some (.int .i64 J.s) := fun s => (ALL s).2.2.1
        have g3 : ∀ s : Sub w2.drew, s.val.cell? ⟨P, 3, none⟩ = some (.int .i64 J.q) := fun s => (ALL s).2.2.2.1
        have g4 : ∀ s : Sub w2.drew, s.val.cell? ⟨P, 4, none⟩ = some (.int .i64 J.m) := fun s => (ALL s).2.2.2.2.1
        have g5 : ∀ s : Sub w2.drew, s.val.cell? ⟨P, 5, none⟩ = some (.int .i64 J.p) := fun s => (ALL s).2.2.2.2.2.1
        have g6 : ∀ s : Sub w2.drew, s.val.cell? ⟨P, 6, none⟩ = some (.slice J.pA J.pn J.pc) := fun s => (ALL s).2.2.2.2.2.2.1
        have g7 : ∀ s : Sub w2.drew, s.val.cell? ⟨P, 7, none⟩ = some (.slice J.tA J.tn J.tc) := fun s => (ALL s).2.2.2.2.2.2.2.1
        have g8 : ∀ s : Sub w2.drew, s.val.cell? ⟨Q, 0, none⟩ = some (.int .i64 K.t) := fun s => (ALL s).2.2.2.2.2.2.2.2.1
        have g9 : ∀ s : Sub w2.drew, s.val.cell? ⟨Q, 1, none⟩ = some (.int .i64 K.o) := fun s => (ALL s).2.2.2.2.2.2.2.2.2.1
        have g10 : ∀ s : Sub w2.drew, s.val.cell? ⟨Q, 2, none⟩ = some (.int .i64 K.s) := fun s => (ALL s).2.2.2.2.2.2.2.2.2.2.1
        have g11 : ∀ s : Sub w2.drew, s.val.cell? ⟨Q, 3, none⟩ = some (.int .i64 K.q) := fun s => (ALL s).2.2.2.2.2.2.2.2.2.2.2.1
        have g12 : ∀ s : Sub w2.drew, s.val.cell? ⟨Q, 4, none⟩ = some (.int .i64 K.m) := fun s => (ALL s).2.2.2.2.2.2.2.2.2.2.2.2.1
        have g13 : ∀ s : Sub w2.drew, s.val.cell? ⟨Q, 5, none⟩ = some (.int .i64 K.p) := fun s => (ALL s).2.2.2.2.2.2.2.2.2.2.2.2.2.1
        have g14 : ∀ s : Sub w2.drew, s.val.cell? ⟨Q, 6, none⟩ = some (.slice K.pA K.pn K.pc) := fun s => (ALL s).2.2.2.2.2.2.2.2.2.2.2.2.2.2.1
        have g15 : ∀ s : Sub w2.drew, s.val.cell? ⟨Q, 7, none⟩ = some (.slice K.tA K.tn K.tc) := fun s => (ALL s).2.2.2.2.2.2.2.2.2.2.2.2.2.2.2.1
        have g16 : ∀ s : Sub w2.drew, s.val.cell? ⟨X, 8, none⟩ = some (.slice A n c) := fun s => (ALL s).2.2.2.2.2.2.2.2.2.2.2.2.2.2.2.2.1
        have g17 : ∀ s : Sub w2.drew, s.val.cell? ⟨X + 1, 8, none⟩ = some (.slice B m d) := fun s => (ALL s).2.2.2.2.2.2.2.2.2.2.2.2.2.2.2.2.2
        have H1q := hide (fun (s : Sub w2.drew) => H1.out s.val (O9.out.trans0 ((OD.out.drew).trans0 s.ok)))
        have H2q := hide (fun (s : Sub w2.drew) => H2.out s.val (O9.out.trans0 ((OD.out.drew).trans0 s.ok)))
        have EEq := hide (fun (s : Sub w2.drew) => EE.out s.val (O9.out.trans0 ((OD.out.drew).trans0 s.ok)))
        clear k1 k2 k3 k4 PE TE ALL kd H1 H2 EE STAY
        cases hh
        · have hq := HQ.out
          refine wp_region_quiet_sub (by kernel_rfl) (by kernel_rfl) ?_
          repeat (go_big_quiet_step (first
            | (go_at_call 44; first | with_reducible exact quiet_sub (H1q.out _) | with_reducible exact quiet_sub (H2q.out _))
            | (go_at_call 58; with_reducible exact quiet_sub (EEq.out _))))
          refine wpQuiet_nil ?_
          rintro _ ⟨s, rfl⟩
          go_wp2_with fail
          go_ret
          exact ⟨rfl, O9.out.trans0 ((OD.out.drew).trans0 s.ok)⟩
        · obtain rfl : s1 = s2 := bytes_eq HQ.out
          clear HQ
          refine wp_region_quiet_sub (by kernel_rfl) (by kernel_rfl) ?_
          repeat (go_big_quiet_step (first
            | (go_at_call 44; first | with_reducible exact quiet_sub (H1q.out _) | with_reducible exact quiet_sub (H2q.out _))
            | (go_at_call 58; with_reducible exact quiet_sub (EEq.out _))))
          refine wpQuiet_nil ?_
          rintro _ ⟨s, rfl⟩
          go_wp2_with fail
          go_ret
          exact ⟨rfl, O9.out.trans0 ((OD.out.drew).trans0 s.ok)⟩
end Go.Proofs.YteblhklclcjonaaGreatDoor
namespace Go.Proofs.YteblhklclcjonaaGreatDoor
open Go.RowKit Go.BigFrame
set_option linter.unusedVariables false
set_option linter.all false
set_option maxRecDepth 100000

def v6B (J K : Jb) : Bool := (!(J.t != K.t)) && ((!(J.o != K.o)) && ((!(J.s != K.s)) && ((!(J.q != K.q)) && ((!(J.m != K.m)) && (!(J.p != K.p))))))
def sjB (J K : Jb) : Bool := v6B J K && (psB J K && tsB J K)
theorem psB_len {J K : Jb} (h : ((J.pn : Int) != (K.pn : Int)) = true) : psB J K = false := by
  unfold psB eqG
  rw [decide_eq_false (fun e => by rw [e] at h; simp at h)]
  rfl
theorem tsB_len {J K : Jb} (h : ((J.tn : Int) != (K.tn : Int)) = true) : tsB J K = false := by
  unfold tsB eqG
  rw [decide_eq_false (fun e => by rw [e] at h; simp at h)]
  rfl
set_option maxHeartbeats 16000000 in
theorem rsamejob_any (J K : Jb) (w : World) (hJ : JbAt w J) (hK : JbAt w K) : Calls Tryz.prog 48 #[.agg (jobV J), .agg (jobV K)] w fun e w' => e = .returned (.bool (sjB J K)) ∧ Only [] w w' := by
  have hpn := hJ.2.2.1
  have htn := hJ.2.2.2
  unfold maxLen at hpn htn
  have HJ := hide hJ
  have HK := hide hK
  have O2 := hide (((Only.refl [] w).alloc (.cells (jobV J) 52)).alloc (.cells (jobV K) 52))
  have B1 := hide ((Blk.new w 52 (jobV J)).alloc (.cells (jobV K) 52))
  have B2 := hide (Blk.new (w.alloc (.cells (jobV J) 52)) 52 (jobV K))
  simp only [World.size_alloc] at B2
  unfold jobV at B1 B2 O2
  unfold jobV
  obtain ⟨X, hX⟩ : ∃ X, w.heap.size = X := ⟨_, rfl⟩
  rw [hX] at B1 B2
  have x0 := B1.out.cell 0; have x1 := B1.out.cell 1; have x2 := B1.out.cell 2; have x3 := B1.out.cell 3; have x4 := B1.out.cell 4; have x5 := B1.out.cell 5; have x6 := B1.out.cell 6; have x7 := B1.out.cell 7
  have y0 := B2.out.cell 0; have y1 := B2.out.cell 1; have y2 := B2.out.cell 2; have y3 := B2.out.cell 3; have y4 := B2.out.cell 4; have y5 := B2.out.cell 5; have y6 := B2.out.cell 6; have y7 := B2.out.cell 7
  clear hJ hK
  cases h0 : (J.t != K.t) with
  | true =>
    have hv := hide (show sjB J K = false by
      unfold sjB v6B
      rw [h0]
      rfl)
    go_enter Tryz.func48, Tryz.ntmps48
    go_wp2_with fail
    go_ret
    exact ⟨by rw [hv.out]; rfl, O2.out⟩
  | false =>
    cases h1 : (J.o != K.o) with
    | true =>
      have hv := hide (show sjB J K = false by
        unfold sjB v6B
        rw [h0, h1]
        rfl)
      go_enter Tryz.func48, Tryz.ntmps48
      go_wp2_with fail
      go_ret
      exact ⟨by rw [hv.out]; rfl, O2.out⟩
    | false =>
      cases h2 : (J.s != K.s) with
      | true =>
        have hv := hide (show sjB J K = false by
          unfold sjB v6B
          rw [h0, h1, h2]
          rfl)
        go_enter Tryz.func48, Tryz.ntmps48
        go_wp2_with fail
        go_ret
        exact ⟨by rw [hv.out]; rfl, O2.out⟩
      | false =>
        cases h3 : (J.q != K.q) with
        | true =>
          have hv := hide (show sjB J K = false by
            unfold sjB v6B
            rw [h0, h1, h2, h3]
            rfl)
          go_enter Tryz.func48, Tryz.ntmps48
          go_wp2_with fail
          go_ret
          exact ⟨by rw [hv.out]; rfl, O2.out⟩
        | false =>
          cases h4 : (J.m != K.m) with
          | true =>
            have hv := hide (show sjB J K = false by
              unfold sjB v6B
              rw [h0, h1, h2, h3, h4]
              rfl)
            go_enter Tryz.func48, Tryz.ntmps48
            go_wp2_with fail
            go_ret
            exact ⟨by rw [hv.out]; rfl, O2.out⟩
          | false =>
            cases h5 : (J.p != K.p) with
            | true =>
              have hv := hide (show sjB J K = false by
                unfold sjB v6B
                rw [h0, h1, h2, h3, h4, h5]
                rfl)
              go_enter Tryz.func48, Tryz.ntmps48
              go_wp2_with fail
              go_ret
              exact ⟨by rw [hv.out]; rfl, O2.out⟩
            | false =>
              cases h6 : ((J.pn : Int) != (K.pn : Int)) with
              | true =>
                have hv := hide (show sjB J K = false by
                  unfold sjB
                  rw [psB_len h6]
                  simp)
                go_enter Tryz.func48, Tryz.ntmps48
                go_wp2_with fail
                go_ret
                exact ⟨by rw [hv.out]; rfl, O2.out⟩
              | false =>
                cases h7 : ((J.tn : Int) != (K.tn : Int)) with
                | true =>
                  have hv := hide (show sjB J K = false by
                    unfold sjB
                    rw [tsB_len h7]
                    simp)
                  go_enter Tryz.func48, Tryz.ntmps48
                  go_wp2_with fail
                  go_ret
                  exact ⟨by rw [hv.out]; rfl, O2.out⟩
                | false =>
                  have hv := hide (show sjB J K = (psB J K && tsB J K) by
                    unfold sjB v6B
                    rw [h0, h1, h2, h3, h4, h5]
                    rfl)
                  have hpe : J.pn = K.pn := by simp at h6; omega
                  have hte : J.tn = K.tn := by simp at h7; omega
                  have HPE := hide hpe
                  have HTE := hide hte
                  clear hpe hte
                  go_enter Tryz.func48, Tryz.ntmps48
                  go_wp2_with fail
                  try simp only [hX]
                  obtain ⟨V, hV⟩ : ∃ V, (w.alloc (.cells #[.int .i64 J.t, .int .i64 J.o, .int .i64 J.s, .int .i64 J.q, .int .i64 J.m, .int .i64 J.p, .slice J.pA J.pn J.pc, .slice J.tA J.tn J.tc] 52)).alloc (.cells #[.int .i64 K.t, .int .i64 K.o, .int .i64 K.s, .int .i64 K.q, .int .i64 K.m, .int .i64 K.p, .slice K.pA K.pn K.pc, .slice K.tA K.tn K.tc] 52) = V := ⟨_, rfl⟩
                  rw [hV] at B1 B2 O2 ⊢
                  clear hV hX h0 h1 h2 h3 h4 h5 h6 h7 x0 x1 x2 x3 x4 x5 x6 x7 y0 y1 y2 y3 y4 y5 y6 y7
                  go_loopw [5] (fun v5 wr => ∃ q : Nat, q ≤ J.pn ∧ v5 = .int .i64 q ∧ Hid (∀ j, j < q → (!sameB (J.P j).n (J.P j).f (K.P j).n (K.P j).f) = false) ∧ Hid (Only [] V wr)) (fun v5 _ => J.pn - (intOf v5).toNat)
                  case atStart => exact ⟨0, by omega, rfl, hide (fun j hj => by omega), hide (Only.refl _ _)⟩
                  case round =>
                    obtain ⟨q, hq, rfl, hz, hO⟩ := hrel
                    have x6 := (B1.out.only hO.out (by simp)).cell 6
                    by_cases hqn : q < J.pn
                    · have y6 := (B2.out.only hO.out (by simp)).cell 6
                      obtain ⟨a, hpa, e0, e1, e2⟩ := HJ.out.1 q hqn
                      obtain ⟨b, hpb, f0, f1, f2⟩ := HK.out.1 q (by have := HPE.out; omega)
                      have OW := hide (O2.out.trans0 hO.out)
                      have g0 : ∀ s : Sub wr.drew, s.val.cell? (a.add q) = some (.slice (J.P q).A (J.P q).n (J.P q).c) := fun s => ((OW.out.drew).trans0 s.ok).keep0 e0
                      have g1 : ∀ s : Sub wr.drew, s.val.cell? (b.add q) = some (.slice (K.P q).A (K.P q).n (K.P q).c) := fun s => ((OW.out.drew).trans0 s.ok).keep0 f0
                      have g2 : ∀ s : Sub wr.drew, s.val.cell? ⟨X, 6, none⟩ = some (.slice J.pA J.pn J.pc) := fun s => (B1.out.only ((hO.out.drew).trans0 s.ok) (by simp)).cell 6
                      have g3 : ∀ s : Sub wr.drew, s.val.cell? ⟨X + 1, 6, none⟩ = some (.slice K.pA K.pn K.pc) := fun s => (B2.out.only ((hO.out.drew).trans0 s.ok) (by simp)).cell 6
                      have hkn : q < K.pn := by have := HPE.out; omega
                      have j0 : (0 : Int) ≤ (q : Int) := by omega
                      have j1 : (q : Int) < (J.pn : Int) := by omega
                      have j2 : (q : Int) < (K.pn : Int) := by omega
                      have SM := fun s : Sub wr.drew => rsame_any (J.P q).A (J.P q).n (J.P q).c (J.P q).f (K.P q).A (K.P q).n (K.P q).c (K.P q).f s.val (e2.only0 ((OW.out.drew).trans0 s.ok)) (f2.only0 ((OW.out.drew).trans0 s.ok)) e1
                      obtain ⟨z, hz'⟩ : ∃ z, sameB (J.P q).n (J.P q).f (K.P q).n (K.P q).f = z := ⟨_, rfl⟩
                      rw [hz'] at SM
                      have SM := hide SM
                      have HZ := hide hz'
                      rw [hpa] at g2
                      rw [hpb] at g3
                      clear e0 e1 e2 f0 f1 f2 hz'
                      cases z with
                      | true =>
                        go_wp2_with fail
                        refine wp_region_quiet_sub (by kernel_rfl) (by kernel_rfl) ?_
                        repeat (go_big_quiet_step ((go_at_call 73; with_reducible exact quiet_sub (SM.out _))))
                        refine wpQuiet_nil ?_
                        rintro _ ⟨s, rfl⟩
                        go_wp2_with fail
                        go_roundw
                        case rel => exact ⟨q + 1, by omega, by go_num, hide (fun j hj => by
                          rcases (by omega : j < q ∨ j = q) with h | h
                          · exact hz.out j h
                          · subst h; rw [HZ.out]; rfl), hide ((hO.out.drew).trans0 s.ok)⟩
                        case measure => simp [intOf]; omega
                      | false =>
                        have hps := hide (show psB J K = false by
                          cases hb : psB J K with
                          | false => rfl
                          | true =>
                            have := ((eqG_iff _ _ _).1 hb).2 q hqn
                            rw [HZ.out] at this
                            exact this.symm)
                        go_wp2_with fail
                        refine wp_region_quiet_sub (by kernel_rfl) (by kernel_rfl) ?_
                        repeat (go_big_quiet_step ((go_at_call 73; with_reducible exact quiet_sub (SM.out _))))
                        refine wpQuiet_nil ?_
                        rintro _ ⟨s, rfl⟩
                        go_wp2_with fail
                        go_ret
                        exact ⟨by rw [hv.out, hps.out]; rfl, OW.out.trans0 ((Only.refl [] wr).drew.trans0 s.ok)⟩
                    · obtain rfl : q = J.pn := by omega
                      have hps := hide (show psB J K = true from (eqG_iff _ _ _).2 ⟨HPE.out, fun k hk => by have := hz.out k hk; simpa using this⟩)
                      have OW := hO
                      clear hqn hq hO hz
                      go_wp2_with fail
                      clear x6
                      go_loopw [6] (fun v6 wr => ∃ q : Nat, q ≤ J.tn ∧ v6 = .int .i64 q ∧ Hid (∀ j, j < q → (!decide (J.T j = K.T j)) = false) ∧ Hid (Only [] V wr)) (fun v6 _ => J.tn - (intOf v6).toNat)
                      case atStart => exact ⟨0, by omega, rfl, hide (fun j hj => by omega), OW⟩
                      case round =>
                        clear OW
                        obtain ⟨q, hq, rfl, hz, hO⟩ := hrel
                        have x7 := (B1.out.only hO.out (by simp)).cell 7
                        by_cases hqn : q < J.tn
                        · have y7 := (B2.out.only hO.out (by simp)).cell 7
                          obtain ⟨a, hpa, e0⟩ := HJ.out.2.1 q hqn
                          obtain ⟨b, hpb, f0⟩ := HK.out.2.1 q (by have := HTE.out; omega)
                          have OW := hide (O2.out.trans0 hO.out)
                          have c0 := OW.out.keep0 e0
                          have d0 := OW.out.keep0 f0
                          have hkn : q < K.tn := by have := HTE.out; omega
                          have j0 : (0 : Int) ≤ (q : Int) := by omega
                          have j1 : (q : Int) < (J.tn : Int) := by omega
                          have j2 : (q : Int) < (K.tn : Int) := by omega
                          rw [hpa] at x7
                          rw [hpb] at y7
                          obtain ⟨x, hx⟩ : ∃ x, J.T q = x := ⟨_, rfl⟩
                          obtain ⟨y, hy⟩ : ∃ y, K.T q = y := ⟨_, rfl⟩
                          rw [hx] at c0
                          rw [hy] at d0
                          by_cases hxy : x = y
                          · have HZ := hide (show decide (J.T q = K.T q) = true from decide_eq_true (by rw [hx, hy, hxy]))
                            have bq : (x.toList == x.toList) = true := by simp
                            clear e0 f0 hx hy
                            subst hxy
                            go_wp2_with fail
                            go_quiet (fail)
                            go_wp2_with fail
                            go_roundw
                            case rel => exact ⟨q + 1, by omega, by go_num, hide (fun j hj => by
                              rcases (by omega : j < q ∨ j = q) with h | h
                              · exact hz.out j h
                              · subst h; rw [HZ.out]; rfl), hide (hO.out.drewN _)⟩
                            case measure => simp [intOf]; omega
                          · have hts := hide (show tsB J K = false by
                              cases hb : tsB J K with
                              | false => rfl
                              | true =>
                                have := ((eqG_iff _ _ _).1 hb).2 q hqn
                                rw [hx, hy] at this
                                exact absurd (of_decide_eq_true this) hxy)
                            have bq := bytes_ne hxy
                            clear e0 f0 hx hy
                            go_wp2_with fail
                            go_quiet (fail)
                            go_wp2_with fail
                            go_ret
                            exact ⟨by rw [hv.out, hts.out]; simp, OW.out.drewN _⟩
                        · obtain rfl : q = J.tn := by omega
                          have hts := hide (show tsB J K = true from (eqG_iff _ _ _).2 ⟨HTE.out, fun k hk => by have := hz.out k hk; simpa using this⟩)
                          go_wp2_with fail
                          go_ret
                          exact ⟨by rw [hv.out, hps.out, hts.out]; rfl, O2.out.trans0 hO.out⟩
end Go.Proofs.YteblhklclcjonaaGreatDoor
namespace Go.Proofs.YteblhklclcjonaaGreatDoor
open Go.RowKit Go.BigFrame
set_option linter.unusedVariables false
set_option linter.all false
set_option maxRecDepth 100000

theorem esB_len {n m : Nat} {f g : Nat → Ev} (h : ((n : Int) != (m : Int)) = true) : esB n m f g = false := by
  unfold esB eqG
  rw [decide_eq_false (fun e => by rw [e] at h; simp at h)]
  rfl
set_option maxHeartbeats 16000000 in
theorem rsame26_any (J : Jb) (A : Option Addr) (n c : Nat) (f : Nat → Ev) (K : Jb) (B : Option Addr) (m d : Nat) (g : Nat → Ev) (w : World) (hJ : JbAt w J) (hK : JbAt w K) (hE : EvAt w A n f) (hF : EvAt w B m g) (hn : n ≤ maxLen) : Calls Tryz.prog 26 #[.agg (sc9 J A n c), .agg (sc9 K B m d)] w fun e w' => e = .returned (.bool (sjB J K && esB n m f g)) ∧ Only [] w w' := by
  unfold maxLen at hn
  have SJ := fun W (o : Only [] w W) => rsamejob_any J K W (jb_only0 hJ o) (jb_only0 hK o)
  obtain ⟨sj, hsj⟩ : ∃ x, sjB J K = x := ⟨_, rfl⟩
  rw [hsj] at SJ ⊢
  have SJ := hide SJ
  have HE := hide hE
  have HF := hide hF
  have O2 := hide (((Only.refl [] w).alloc (.cells (sc9 J A n c) 54)).alloc (.cells (sc9 K B m d) 54))
  have B1 := hide ((Blk.new w 54 (sc9 J A n c)).alloc (.cells (sc9 K B m d) 54))
  have B2 := hide (Blk.new (w.alloc (.cells (sc9 J A n c) 54)) 54 (sc9 K B m d))
  simp only [World.size_alloc] at B2
  unfold sc9 at B1 B2 O2
  unfold jobV at SJ
  unfold sc9
  obtain ⟨X, hX⟩ : ∃ X, w.heap.size = X := ⟨_, rfl⟩
  rw [hX] at B1 B2
  have x0 := B1.out.cell 0; have x1 := B1.out.cell 1; have x2 := B1.out.cell 2; have x3 := B1.out.cell 3; have x4 := B1.out.cell 4; have x5 := B1.out.cell 5; have x6 := B1.out.cell 6; have x7 := B1.out.cell 7; have x8 := B1.out.cell 8
  have y0 := B2.out.cell 0; have y1 := B2.out.cell 1; have y2 := B2.out.cell 2; have y3 := B2.out.cell 3; have y4 := B2.out.cell 4; have y5 := B2.out.cell 5; have y6 := B2.out.cell 6; have y7 := B2.out.cell 7; have y8 := B2.out.cell 8
  clear hJ hK hE hF hsj
  cases sj with
  | false =>
    go_enter Tryz.func26, Tryz.ntmps26
    go_wp2_with (go_at_call 48; (with_reducible refine (SJ.out _ O2.out).mono ?_); rintro e w1 ⟨rfl, o⟩; have O3 := hide (O2.out.trans0 o); clear o)
    go_ret
    exact ⟨rfl, O3.out⟩
  | true =>
    cases hl : ((n : Int) != (m : Int)) with
    | true =>
      have hv := hide (esB_len (f := f) (g := g) hl)
      go_enter Tryz.func26, Tryz.ntmps26
      go_wp2_with (go_at_call 48; (with_reducible refine (SJ.out _ O2.out).mono ?_); rintro e w1 ⟨rfl, o⟩; have O3 := hide (O2.out.trans0 o); have x8 := (B1.out.only o (by simp)).cell 8; have y8 := (B2.out.only o (by simp)).cell 8; clear o)
      go_ret
      exact ⟨by rw [hv.out]; rfl, O3.out⟩
    | false =>
      have HNM := hide (show n = m by simp at hl; omega)
      go_enter Tryz.func26, Tryz.ntmps26
      go_wp2_with (go_at_call 48; (with_reducible refine (SJ.out _ O2.out).mono ?_); rintro e w1 ⟨rfl, o⟩; have O3 := hide (O2.out.trans0 o); have B1 := hide (B1.out.only o (by simp)); have B2 := hide (B2.out.only o (by simp)); have x8 := B1.out.cell 8; have y8 := B2.out.cell 8; clear o)
      clear hX hl x0 x1 x2 x3 x4 x5 x6 x7 x8 y0 y1 y2 y3 y4 y5 y6 y7 y8 SJ O2
      go_loopw [5] (fun v5 wr => ∃ q : Nat, q ≤ n ∧ v5 = .int .i64 q ∧ Hid (∀ j, j < q → (!evEq (f j) (g j)) = false) ∧ Hid (Only [] w1 wr)) (fun v5 _ => n - (intOf v5).toNat)
      case atStart => exact ⟨0, by omega, rfl, hide (fun j hj => by omega), hide (Only.refl _ _)⟩
      case round =>
        obtain ⟨q, hq, rfl, hz, hO⟩ := hrel
        have x8 := (B1.out.only hO.out (by simp)).cell 8
        by_cases hqn : q < n
        · have y8 := (B2.out.only hO.out (by simp)).cell 8
          obtain ⟨a, rfl, e0, e1⟩ := HE.out q hqn
          obtain ⟨b, rfl, f0, f1⟩ := HF.out q (by have := HNM.out; omega)
          have OW := hide (O3.out.trans0 hO.out)
          have c0 := OW.out.keep0 e0
          have c1 := OW.out.keep0 e1
          have d0 := OW.out.keep0 f0
          have d1 := OW.out.keep0 f1
          have j0 : (0 : Int) ≤ (q : Int) := by omega
          have j1 : (q : Int) < (n : Int) := by omega
          have j2 : (q : Int) < (m : Int) := by have := HNM.out; omega
          obtain ⟨z, hz'⟩ : ∃ z, evEq (f q) (g q) = z := ⟨_, rfl⟩
          have HZ := hide hz'
          clear e0 e1 f0 f1
          cases z with
          | true =>
            have NQ := fun W => (neqEv (f q).kind (f q).num (g q).kind (g q).num W).trans (by rw [show ((f q).kind == (g q).kind && (f q).num == (g q).num) = true from hz'])
            clear hz'
            go_wp2_with fail
            go_quiet (fail)
            go_wp2_with fail
            go_roundw
            case rel => exact ⟨q + 1, by omega, by go_num, hide (fun j hj => by
              rcases (by omega : j < q ∨ j = q) with h | h
              · exact hz.out j h
              · subst h; rw [HZ.out]; rfl), hide (hO.out.drewN _)⟩
            case measure => simp [intOf]; omega
          | false =>
            have NQ := fun W => (neqEv (f q).kind (f q).num (g q).kind (g q).num W).trans (by rw [show ((f q).kind == (g q).kind && (f q).num == (g q).num) = false from hz'])
            have hv := hide (show esB n m f g = false by
              cases hb : esB n m f g with
              | false => rfl
              | true =>
                have := ((eqG_iff _ _ _).1 hb).2 q hqn
                rw [HZ.out] at this
                exact this.symm)
            clear hz'
            go_wp2_with fail
            go_quiet (fail)
            go_wp2_with fail
            go_ret
            exact ⟨by rw [hv.out]; rfl, OW.out.drewN _⟩
        · obtain rfl : q = n := by omega
          have hv := hide (show esB q m f g = true from (eqG_iff _ _ _).2 ⟨HNM.out, fun k hk => by have := hz.out k hk; simpa using this⟩)
          go_wp2_with fail
          go_ret
          exact ⟨by rw [hv.out]; rfl, O3.out.trans0 hO.out⟩
/-- A flag, whichever. -/
def AnsB (e : Ending) : Prop := ∃ b, e = .returned (.bool b)
set_option maxHeartbeats 16000000 in
theorem muchjob_any (J : Jb) (w : World) (hJ : JbAt w J) : Calls Tryz.prog 37 #[.agg (jobV J), .int .i64 9000] w fun e w' => AnsB e ∧ Only [] w w' := by
  have hpn := hJ.2.2.1
  have htn := hJ.2.2.2
  unfold maxLen at hpn htn
  have HJ := hide hJ
  have O1 := hide ((Only.refl [] w).alloc (.cells (jobV J) 52))
  have B1 := hide (Blk.new w 52 (jobV J))
  unfold jobV at B1 O1
  unfold jobV
  obtain ⟨X, hX⟩ : ∃ X, w.heap.size = X := ⟨_, rfl⟩
  rw [hX] at B1
  have x0 := B1.out.cell 0; have x1 := B1.out.cell 1; have x2 := B1.out.cell 2; have x3 := B1.out.cell 3; have x4 := B1.out.cell 4; have x5 := B1.out.cell 5; have x6 := B1.out.cell 6; have x7 := B1.out.cell 7
  clear hJ
  go_enter Tryz.func37, Tryz.ntmps37
  go_wp2_with fail
  try simp only [hX]
  obtain ⟨V, hV⟩ : ∃ V, w.alloc (.cells #[.int .i64 J.t, .int .i64 J.o, .int .i64 J.s, .int .i64 J.q, .int .i64 J.m, .int .i64 J.p, .slice J.pA J.pn J.pc, .slice J.tA J.tn J.tc] 52) = V := ⟨_, rfl⟩
  rw [hV] at B1 O1 ⊢
  clear hV hX x0 x1 x2 x3 x4 x5 x6 x7
  go_loopw [5, 6] (fun v5 v6 wr => ∃ (u : Int) (q : Nat), q ≤ J.pn ∧ -9223372036854775808 ≤ u ∧ u ≤ 9223372036854775807 ∧ v5 = .int .i64 u ∧ v6 = .int .i64 q ∧ Hid (Only [] V wr)) (fun _ v6 _ => J.pn - (intOf v6).toNat)
  case atStart => exact ⟨_, 0, by omega, by unfold wrap64; omega, by unfold wrap64; omega, rfl, rfl, hide (Only.refl _ _)⟩
  case round =>
    obtain ⟨u, q, hq, hu0, hu1, rfl, rfl, hO⟩ := hrel
    have x6 := (B1.out.only hO.out (by simp)).cell 6
    by_cases hqn : q < J.pn
    · have j0 : (0 : Int) ≤ (q : Int) := by omega
      have j1 : (q : Int) < (J.pn : Int) := by omega
      by_cases hu : u ≤ 9000
      · have d1 : decide (u ≤ 9000) = true := decide_eq_true hu
        obtain ⟨a, hpa, e0, e1, e2⟩ := HJ.out.1 q hqn
        have c0 := (O1.out.trans0 hO.out).keep0 e0
        rw [hpa] at x6
        obtain ⟨ln, hln⟩ : ∃ t, (J.P q).n = t := ⟨_, rfl⟩
        rw [hln] at c0 e1
        unfold maxLen at e1
        clear e0 e2 hln
        by_cases hm : ln ≤ 9001
        · have hm1 : (ln : Int) ≤ 9001 := by omega
          have hm2 : decide ((ln : Int) ≤ 9001) = true := decide_eq_true hm1
          go_wp2_with fail
          go_roundw
          case rel => exact ⟨_, q + 1, by omega, by omega, by omega, rfl, by go_num, hO⟩
          case measure => simp [intOf]; omega
        · have hm1 : ¬ (ln : Int) ≤ 9001 := by omega
          have hm2 : decide ((ln : Int) ≤ 9001) = false := decide_eq_false hm1
          go_wp2_with fail
          go_roundw
          case rel => exact ⟨_, q + 1, by omega, by omega, by omega, rfl, by go_num, hO⟩
          case measure => simp [intOf]; omega
      · have d1 : decide (u ≤ 9000) = false := decide_eq_false hu
        have OW := hO
        go_wp2_with fail
        clear x6 d1 hu j0 j1 hqn hq hO
        go_loopw [5, 7] (fun v5 v7 wr => ∃ (u : Int) (q : Nat), q ≤ J.tn ∧ -9223372036854775808 ≤ u ∧ u ≤ 9223372036854775807 ∧ v5 = .int .i64 u ∧ v7 = .int .i64 q ∧ Hid (Only [] V wr)) (fun _ v7 _ => J.tn - (intOf v7).toNat)
        case atStart => exact ⟨u, 0, by omega, hu0, hu1, rfl, rfl, OW⟩
        case round =>
          clear hu0 hu1 OW
          obtain ⟨u, q, hq, hu0, hu1, rfl, rfl, hO⟩ := hrel
          have x7 := (B1.out.only hO.out (by simp)).cell 7
          by_cases hqn : q < J.tn
          · have j0 : (0 : Int) ≤ (q : Int) := by omega
            have j1 : (q : Int) < (J.tn : Int) := by omega
            by_cases hu : u ≤ 9000
            · have d1 : decide (u ≤ 9000) = true := decide_eq_true hu
              obtain ⟨a, hpa, e0⟩ := HJ.out.2.1 q hqn
              have c0 := (O1.out.trans0 hO.out).keep0 e0
              rw [hpa] at x7
              obtain ⟨t, ht⟩ : ∃ t, J.T q = t := ⟨_, rfl⟩
              rw [ht] at c0
              clear e0 ht
              by_cases hm : t.size ≤ 9001
              · have hm1 : (t.size : Int) ≤ 9001 := by omega
                have hm2 : decide ((t.size : Int) ≤ 9001) = true := decide_eq_true hm1
                go_wp2_with fail
                go_roundw
                case rel => exact ⟨_, q + 1, by omega, by omega, by omega, rfl, by go_num, hO⟩
                case measure => simp [intOf]; omega
              · have hm1 : ¬ (t.size : Int) ≤ 9001 := by omega
                have hm2 : decide ((t.size : Int) ≤ 9001) = false := decide_eq_false hm1
                go_wp2_with fail
                go_roundw
                case rel => exact ⟨_, q + 1, by omega, by omega, by omega, rfl, by go_num, hO⟩
                case measure => simp [intOf]; omega
            · have d1 : decide (u ≤ 9000) = false := decide_eq_false hu
              go_wp2_with fail
              go_ret
              exact ⟨⟨_, rfl⟩, O1.out.trans0 hO.out⟩
          · obtain rfl : q = J.tn := by omega
            go_wp2_with fail
            go_ret
            exact ⟨⟨_, rfl⟩, O1.out.trans0 hO.out⟩
    · obtain rfl : q = J.pn := by omega
      have OW := hO
      go_wp2_with fail
      clear x6 hqn hq hO
      go_loopw [5, 7] (fun v5 v7 wr => ∃ (u : Int) (q : Nat), q ≤ J.tn ∧ -9223372036854775808 ≤ u ∧ u ≤ 9223372036854775807 ∧ v5 = .int .i64 u ∧ v7 = .int .i64 q ∧ Hid (Only [] V wr)) (fun _ v7 _ => J.tn - (intOf v7).toNat)
      case atStart => exact ⟨u, 0, by omega, hu0, hu1, rfl, rfl, OW⟩
      case round =>
        clear hu0 hu1 OW
        obtain ⟨u, q, hq, hu0, hu1, rfl, rfl, hO⟩ := hrel
        have x7 := (B1.out.only hO.out (by simp)).cell 7
        by_cases hqn : q < J.tn
        · have j0 : (0 : Int) ≤ (q : Int) := by omega
          have j1 : (q : Int) < (J.tn : Int) := by omega
          by_cases hu : u ≤ 9000
          · have d1 : decide (u ≤ 9000) = true := decide_eq_true hu
            obtain ⟨a, hpa, e0⟩ := HJ.out.2.1 q hqn
            have c0 := (O1.out.trans0 hO.out).keep0 e0
            rw [hpa] at x7
            obtain ⟨t, ht⟩ : ∃ t, J.T q = t := ⟨_, rfl⟩
            rw [ht] at c0
            clear e0 ht
            by_cases hm : t.size ≤ 9001
            · have hm1 : (t.size : Int) ≤ 9001 := by omega
              have hm2 : decide ((t.size : Int) ≤ 9001) = true := decide_eq_true hm1
              go_wp2_with fail
              go_roundw
              case rel => exact ⟨_, q + 1, by omega, by omega, by omega, rfl, by go_num, hO⟩
              case measure => simp [intOf]; omega
            · have hm1 : ¬ (t.size : Int) ≤ 9001 := by omega
              have hm2 : decide ((t.size : Int) ≤ 9001) = false := decide_eq_false hm1
              go_wp2_with fail
              go_roundw
              case rel => exact ⟨_, q + 1, by omega, by omega, by omega, rfl, by go_num, hO⟩
              case measure => simp [intOf]; omega
          · have d1 : decide (u ≤ 9000) = false := decide_eq_false hu
            go_wp2_with fail
            go_ret
            exact ⟨⟨_, rfl⟩, O1.out.trans0 hO.out⟩
        · obtain rfl : q = J.tn := by omega
          go_wp2_with fail
          go_ret
          exact ⟨⟨_, rfl⟩, O1.out.trans0 hO.out⟩
theorem much_any (J : Jb) (A : Option Addr) (n c : Nat) (w : World) (hJ : JbAt w J) : Calls Tryz.prog 20 #[.agg (sc9 J A n c), .int .i64 9000] w fun e w' => AnsB e ∧ Only [] w w' := by
  have O1 := hide ((Only.refl [] w).alloc (.cells (sc9 J A n c) 54))
  have B1 := hide (Blk.new w 54 (sc9 J A n c))
  have MJ := hide (fun W (o : Only [] w W) => muchjob_any J W (jb_only0 hJ o))
  unfold sc9 at B1 O1
  unfold jobV at MJ
  unfold sc9
  have x0 := B1.out.cell 0; have x1 := B1.out.cell 1; have x2 := B1.out.cell 2; have x3 := B1.out.cell 3; have x4 := B1.out.cell 4; have x5 := B1.out.cell 5; have x6 := B1.out.cell 6; have x7 := B1.out.cell 7; have x8 := B1.out.cell 8
  clear hJ
  go_enter Tryz.func20, Tryz.ntmps20
  go_wp2_with (go_at_call 37; (with_reducible refine (MJ.out _ O1.out).mono ?_); rintro e w1 ⟨⟨b, rfl⟩, o⟩; have O3 := hide (O1.out.trans0 o); have y8 := (B1.out.only o (by simp)).cell 8; cases b; clear o)
  all_goals go_wp2_with fail
  all_goals go_ret
  all_goals exact ⟨⟨_, rfl⟩, O3.out⟩
end Go.Proofs.YteblhklclcjonaaGreatDoor
