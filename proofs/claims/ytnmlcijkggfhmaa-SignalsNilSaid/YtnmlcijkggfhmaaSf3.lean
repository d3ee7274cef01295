/- Signals: the walks of num and do. Condition: both signals lie. -/
import Derived.Test.YtnmlcijkggfhmaaSf2
namespace Go.Proofs.Ytnmlcijkggfhmaa
open Go.RowKit Go.Shelf
set_option linter.unusedVariables false
set_option linter.all false
set_option maxRecDepth 20000

theorem num_any (c : Int) (w : World) : Calls Try.prog 9 #[.int .i64 c] w fun e w' => e = .returned (.int .i64 c) ∧ w' = w := by
  go_enter Try.func9, Try.ntmps9
  go_wp2_with fail
  go_ret
  exact ⟨rfl, rfl⟩
/-- A step's cells. -/
def stpC (k t n v : Int) (s : Nat) : Array Value := #[.int .i64 k, .int .i64 t, .int .i64 n, .int .i64 v, .int .u32 s]
def stepL (T S : Nat) (L : List Snt) (k t n v : Int) (s : Nat) : List Snt := if k = 1 then sendL T S L t n v else if k = 3 then nextL T L t s else if k = 4 then clrL T L t else L
def stepM (T : Nat) (M : Nat → Nat) (k t : Int) (s : Nat) : Nat → Nat := if k = 2 then setMI M T t s else if k = 4 then clrM M T t else M
theorem sameS_refl (T S : Nat) (L : List Snt) (M : Nat → Nat) : sameS T S L M T S L M = true := sameS_true.2 ⟨rfl, rfl, (same16_iff ..).2 (fun _ _ => rfl), fun _ _ => rfl⟩
/-- What a step leaves. -/
def DoE (w : World) (g mb d T S : Nat) (L : List Snt) (M : Nat → Nat) (e : Ending) (w' : World) : Prop :=
  ∃ g' mb' Bs', e = .returned (.tuple #[ptr g', ptr d, .bool true]) ∧ SG w' g' mb' T S L M Bs' ∧ DS w' d T S L M ∧ Only [g, mb, d] w w' ∧ ((g' = g ∧ mb' = mb) ∨ (w.heap.size ≤ g' ∧ w.heap.size ≤ mb'))
theorem do_results (a b c : Value) (tmps : Array Value) (W : World) (h : tmps.getD 6 undef = a) (h1 : tmps.getD 7 undef = b) (h2 : tmps.getD 8 undef = c) : (results Try.f15 tmps).run Try.prog W = .ok (.tuple #[a, b, c]) W := by
  subst h h1 h2
  simp [results, Try.results15, go_sem]
theorem wide_only {S T : List Nat} {a b : World} (h : Only S a b) (hS : ∀ x ∈ S, x ∈ T) : Only T a b := h.mono (fun x hx => .inl (hS x hx))
section
variable {w : World} {g mb d T S : Nat} {L : List Snt} {M : Nat → Nat} {Bs : List Nat}

set_option maxHeartbeats 4000000 in
theorem do_send (hS : SG w g mb T S L M Bs) (hD : DS w d T S L M) (hl : L.length < 1000) (t n v : Int) (s : Nat) :
    Calls Try.prog 15 #[ptr g, ptr d, .agg (stpC 1 t n v s)] w (DoE w g mb d T S (sendL T S L t n v) M) := by
  obtain ⟨X, hX⟩ : ∃ X, w.heap.size = X := ⟨_, rfl⟩
  have oX : Only [] w (w.alloc (.cells (stpC 1 t n v s) 33)) := (Only.refl [] w).alloc _
  have bX := Blk.new w 33 (stpC 1 t n v s)
  rw [hX] at bX
  obtain ⟨hdg, hdm, hdB⟩ := hD.ne hS
  have hgm := hS.ne
  obtain ⟨hgl, hml, hBl⟩ := hS.lt
  have hdl := hD.lt
  rw [hX] at hgl hml hdl
  have hSX := hS.only0 oX
  have hDX := hD.only0 oX
  have hns := hSX.noS
  unfold stpC at oX bX hSX hDX hns
  obtain ⟨W, hW⟩ : ∃ W, w.alloc (.cells #[.int .i64 1, .int .i64 t, .int .i64 n, .int .i64 v, .int .u32 s] 33) = W := ⟨_, rfl⟩
  have hWX : W.heap.size = X + 1 := by rw [← hW, ← hX]; simp
  rw [hW] at oX bX hSX hDX hns
  have k0 : W.cell? ⟨X, 0, none⟩ = some (.int .i64 1) := (bX.cell 0).trans rfl
  have KX := hide (fun V (o : Only [g, mb, d] W V) => (by
    have hb := bX.only o (by simp; omega)
    exact ⟨hb.cell 1, hb.cell 2, hb.cell 3, hb.cell 4⟩ : V.cell? ⟨X, 1, none⟩ = some (.int .i64 t) ∧ V.cell? ⟨X, 2, none⟩ = some (.int .i64 n) ∧ V.cell? ⟨X, 3, none⟩ = some (.int .i64 v) ∧ V.cell? ⟨X, 4, none⟩ = some (.int .u32 s)))
  have OX := hide oX
  have HSX := hide hSX
  have HDX := hide hDX
  have HNS := hide hns
  have HDB := hide hdB
  have HNE := hide hgm
  have A1 := send_spec (hSX.only0 (Only.refl [] W).drew) t n v
  have B0 := hide (hDX.only0 (Only.refl [] W).drew)
  have NS0 := hide (hSX.only0 (Only.refl [] W).drew).noS
  unfold ptr at A1
  have A1 := hide A1
  clear hS hD hSX hDX hns oX bX hdB hBl
  unfold ptr stpC
  go_enter Try.func15, Try.ntmps15
  go_wp2_with fail
  refine wp_region_held_drew (S := (fun V => Only [g, mb, d] W V)) (by kernel_rfl) ((Only.refl _ _).drew) (fun hHeld => ?_)
  refine wpAnyH_take (i := 0) (oi := ⟨some 27, _, _, _, _, _⟩) (v := ?vd11) rfl (by kernel_rfl) (by kernel_rfl) (by kernel_rfl) (fun _ _ _ h => h) (Or.inl ⟨by rfl, ?hyd11⟩) (by assumption) ?restd11
  case hyd11 => (intro V hSw; (try dsimp only at hSw); go_simp; first | done | (with_reducible rfl))
  try simp only [Act.put, List.setIfInBounds_toArray, List.set_cons_zero, List.set_cons_succ]
  refine wpAnyH_take (i := 1) (oi := ⟨some 28, _, _, _, _, _⟩) (v := ?vd12) rfl (by kernel_rfl) (by kernel_rfl) (by kernel_rfl) (fun _ _ _ h => h) (Or.inl ⟨by rfl, ?hyd12⟩) (by assumption) ?restd12
  case hyd12 => (intro V hSw; (try dsimp only at hSw); go_simp; first | done | (with_reducible rfl))
  try simp only [Act.put, List.setIfInBounds_toArray, List.set_cons_zero, List.set_cons_succ]
  refine wpAnyH_take (i := 2) (oi := ⟨some 29, _, _, _, _, _⟩) (v := ?vd13) rfl (by kernel_rfl) (by kernel_rfl) (by kernel_rfl) (fun _ _ _ h => h) (Or.inl ⟨by rfl, ?hyd13⟩) (by assumption) ?restd13
  case hyd13 => (intro V hSw; (try dsimp only at hSw); go_simp; first | done | (with_reducible rfl))
  try simp only [Act.put, List.setIfInBounds_toArray, List.set_cons_zero, List.set_cons_succ]
  refine wpAnyH_take (i := 3) (oi := ⟨some 30, _, _, _, _, _⟩) (v := ?vd14) rfl (by kernel_rfl) (by kernel_rfl) (by kernel_rfl) (fun _ _ _ h => h) (Or.inl ⟨by rfl, ?hyd14⟩) (by assumption) ?restd14
  case hyd14 => (intro V hSw; (try dsimp only at hSw); go_simp; first | done | (with_reducible rfl))
  try simp only [Act.put, List.setIfInBounds_toArray, List.set_cons_zero, List.set_cons_succ]
  refine wpAnyH_take (i := 4) (oi := ⟨some 31, _, _, _, _, _⟩) (v := ?vd15) rfl (by kernel_rfl) (by kernel_rfl) (by kernel_rfl) (fun _ _ _ h => h) (Or.inl ⟨by rfl, ?hyd15⟩) (by assumption) ?restd15
  case hyd15 => (intro V hSw; (try dsimp only at hSw); obtain ⟨z1, z2, z3, z4⟩ := KX.out V hSw; go_simp; first | done | (with_reducible rfl))
  try simp only [Act.put, List.setIfInBounds_toArray, List.set_cons_zero, List.set_cons_succ]
  refine wpAnyH_take (i := 5) (oi := ⟨some 32, _, _, _, _, _⟩) (v := ?vd16) rfl (by kernel_rfl) (by kernel_rfl) (by kernel_rfl) (fun _ _ _ h => h) (Or.inl ⟨by rfl, ?hyd16⟩) (by assumption) ?restd16
  case hyd16 => (intro V hSw; (try dsimp only at hSw); go_simp; first | done | (with_reducible rfl))
  try simp only [Act.put, List.setIfInBounds_toArray, List.set_cons_zero, List.set_cons_succ]
  refine wpAnyH_take (i := 6) (oi := ⟨some 33, _, _, _, _, _⟩) (v := ?vd17) rfl (by kernel_rfl) (by kernel_rfl) (by kernel_rfl) (fun _ _ _ h => h) (Or.inl ⟨by rfl, ?hyd17⟩) (by assumption) ?restd17
  case hyd17 => (intro V hSw; (try dsimp only at hSw); obtain ⟨z1, z2, z3, z4⟩ := KX.out V hSw; go_simp; first | done | (with_reducible rfl))
  try simp only [Act.put, List.setIfInBounds_toArray, List.set_cons_zero, List.set_cons_succ]
  refine wpAnyH_take (i := 7) (oi := ⟨some 34, _, _, _, _, _⟩) (v := ?vd18) rfl (by kernel_rfl) (by kernel_rfl) (by kernel_rfl) (fun _ _ _ h => h) (Or.inl ⟨by rfl, ?hyd18⟩) (by assumption) ?restd18
  case hyd18 => (intro V hSw; (try dsimp only at hSw); go_simp; first | done | (with_reducible rfl))
  try simp only [Act.put, List.setIfInBounds_toArray, List.set_cons_zero, List.set_cons_succ]
  refine wpAnyH_take (i := 8) (oi := ⟨some 35, _, _, _, _, _⟩) (v := ?vd19) rfl (by kernel_rfl) (by kernel_rfl) (by kernel_rfl) (fun _ _ _ h => h) (Or.inl ⟨by rfl, ?hyd19⟩) (by assumption) ?restd19
  case hyd19 => (intro V hSw; (try dsimp only at hSw); obtain ⟨z1, z2, z3, z4⟩ := KX.out V hSw; go_simp; first | done | (with_reducible rfl))
  try simp only [Act.put, List.setIfInBounds_toArray, List.set_cons_zero, List.set_cons_succ]
  refine wpAnyH_take (i := 11) (oi := ⟨some 38, _, _, _, _, _⟩) (v := ?vd110) rfl (by kernel_rfl) (by kernel_rfl) (by kernel_rfl) (fun _ _ _ h => h) (Or.inl ⟨by rfl, ?hyd110⟩) (by assumption) ?restd110
  case hyd110 => (intro V hSw; (try dsimp only at hSw); go_simp; first | done | (with_reducible rfl))
  try simp only [Act.put, List.setIfInBounds_toArray, List.set_cons_zero, List.set_cons_succ]
  refine wpAnyH_take (i := 12) (oi := ⟨some 39, _, _, _, _, _⟩) (v := ?vd111) rfl (by kernel_rfl) (by kernel_rfl) (by kernel_rfl) (fun _ _ _ h => h) (Or.inl ⟨by rfl, ?hyd111⟩) (by assumption) ?restd111
  case hyd111 => (intro V hSw; (try dsimp only at hSw); go_simp; first | done | (with_reducible rfl))
  try simp only [Act.put, List.setIfInBounds_toArray, List.set_cons_zero, List.set_cons_succ]
  refine wpAnyH_take (i := 13) (oi := ⟨some 40, _, _, _, _, _⟩) (v := ?vd112) rfl (by kernel_rfl) (by kernel_rfl) (by kernel_rfl) (fun _ _ _ h => h) (Or.inl ⟨by rfl, ?hyd112⟩) (by assumption) ?restd112
  case hyd112 => (intro V hSw; (try dsimp only at hSw); obtain ⟨z1, z2, z3, z4⟩ := KX.out V hSw; go_simp; first | done | (with_reducible rfl))
  try simp only [Act.put, List.setIfInBounds_toArray, List.set_cons_zero, List.set_cons_succ]
  refine wpAnyH_take (i := 14) (oi := ⟨some 41, _, _, _, _, _⟩) (v := ?vd113) rfl (by kernel_rfl) (by kernel_rfl) (by kernel_rfl) (fun _ _ _ h => h) (Or.inl ⟨by rfl, ?hyd113⟩) (by assumption) ?restd113
  case hyd113 => (intro V hSw; (try dsimp only at hSw); go_simp; first | done | (with_reducible rfl))
  try simp only [Act.put, List.setIfInBounds_toArray, List.set_cons_zero, List.set_cons_succ]
  refine wpAnyH_take (i := 15) (oi := ⟨some 42, _, _, _, _, _⟩) (v := ?vd114) rfl (by kernel_rfl) (by kernel_rfl) (by kernel_rfl) (fun _ _ _ h => h) (Or.inl ⟨by rfl, ?hyd114⟩) (by assumption) ?restd114
  case hyd114 => (intro V hSw; (try dsimp only at hSw); obtain ⟨z1, z2, z3, z4⟩ := KX.out V hSw; go_simp; first | done | (with_reducible rfl))
  try simp only [Act.put, List.setIfInBounds_toArray, List.set_cons_zero, List.set_cons_succ]
  refine wpAnyH_take (i := 16) (oi := ⟨some 43, _, _, _, _, _⟩) (v := ?vd115) rfl (by kernel_rfl) (by kernel_rfl) (by kernel_rfl) (fun _ _ _ h => h) (Or.inl ⟨by rfl, ?hyd115⟩) (by assumption) ?restd115
  case hyd115 => (intro V hSw; (try dsimp only at hSw); go_simp; first | done | (with_reducible rfl))
  try simp only [Act.put, List.setIfInBounds_toArray, List.set_cons_zero, List.set_cons_succ]
  refine wpAnyH_take (i := 17) (oi := ⟨some 44, _, _, _, _, _⟩) (v := ?vd116) rfl (by kernel_rfl) (by kernel_rfl) (by kernel_rfl) (fun _ _ _ h => h) (Or.inl ⟨by rfl, ?hyd116⟩) (by assumption) ?restd116
  case hyd116 => (intro V hSw; (try dsimp only at hSw); obtain ⟨z1, z2, z3, z4⟩ := KX.out V hSw; go_simp; first | done | (with_reducible rfl))
  try simp only [Act.put, List.setIfInBounds_toArray, List.set_cons_zero, List.set_cons_succ]
  refine wpAnyH_ready (rs := [9]) (by kernel_rfl) (by simp) ?_
  refine AllReadyH.cons (o := ⟨some 36, _, _, _, _, _⟩) rfl (fun K hK => ?_) (AllReadyH.nil)
  rw [if_pos (by rfl)]
  go_simp
  (with_reducible refine A1.out.mono ?_)
  rintro e w2 ⟨rfl, ⟨Bs', S2, hB2⟩, o2⟩
  have D2 := hide (B0.out.only o2 (by simp; omega) NS0.out)
  have S2 := hide S2
  have OS2 := hide (((Only.refl [g, mb, d] W).drew).trans o2 (fun x hx => .inl (by simp at hx; rcases hx with rfl | rfl <;> simp)))
  clear hB2 o2
  try dsimp only
  refine hK.out _ _ (OS2.out) (fun hHeld => ?_)
  clear hK K
  try simp only [Act.put, List.setIfInBounds_toArray, List.set_cons_zero, List.set_cons_succ]
  refine wpAnyH_ready (rs := [10]) (by kernel_rfl) (by simp) ?_
  refine AllReadyH.cons (o := ⟨some 37, _, _, _, _, _⟩) rfl (fun K hK => ?_) (AllReadyH.nil)
  rw [if_pos (by rfl)]
  go_simp
  (with_reducible refine (num_any _ _).mono ?_); rintro e w3 ⟨rfl, hw⟩; obtain rfl := hw.symm; clear hw
  try dsimp only
  refine hK.out _ _ (OS2.out) (fun hHeld => ?_)
  clear hK K
  try simp only [Act.put, List.setIfInBounds_toArray, List.set_cons_zero, List.set_cons_succ]
  refine wpAnyH_ready (rs := [18]) (by kernel_rfl) (by simp) ?_
  refine AllReadyH.cons (o := ⟨some 45, _, _, _, _, _⟩) rfl (fun K hK => ?_) (AllReadyH.nil)
  rw [if_pos (by rfl)]
  go_simp
  have B2 := rsend_spec D2.out hl t n v
  unfold ptr at B2
  (with_reducible refine B2.mono ?_)
  clear B2
  rintro e w4 ⟨rfl, D4, o4⟩
  have S4 := hide (S2.out.only o4 (by simp; omega) (by simp; omega) (fun b hb => by have := (D2.out.ne S2.out).2.2 b hb; simpa using this))
  have D4 := hide D4
  have OS4 := hide (OS2.out.trans o4 (fun x hx => .inl (by simp at hx; simp [hx])))
  clear o4
  try dsimp only
  refine hK.out _ _ (OS4.out) (fun hHeld => ?_)
  clear hK K
  try simp only [Act.put, List.setIfInBounds_toArray, List.set_cons_zero, List.set_cons_succ]
  refine wpAnyH_take (i := 19) (oi := ⟨some 46, _, _, _, _, _⟩) (v := ?vd117) rfl (by kernel_rfl) (by kernel_rfl) (by kernel_rfl) (fun _ _ _ h => h) (Or.inl ⟨by rfl, ?hyd117⟩) (by assumption) ?restd117
  case hyd117 => (intro V hSw; (try dsimp only at hSw); go_simp; first | done | (with_reducible rfl))
  try simp only [Act.put, List.setIfInBounds_toArray, List.set_cons_zero, List.set_cons_succ]
  refine wpAnyH_take (i := 20) (oi := ⟨some 6, _, _, _, _, _⟩) (v := ?vd118) rfl (by kernel_rfl) (by kernel_rfl) (by kernel_rfl) (fun _ _ _ h => h) (Or.inl ⟨by rfl, ?hyd118⟩) (by assumption) ?restd118
  case hyd118 => (intro V hSw; (try dsimp only at hSw); go_simp; first | done | (with_reducible rfl))
  try simp only [Act.put, List.setIfInBounds_toArray, List.set_cons_zero, List.set_cons_succ]
  refine wpAnyH_take (i := 21) (oi := ⟨some 7, _, _, _, _, _⟩) (v := ?vd119) rfl (by kernel_rfl) (by kernel_rfl) (by kernel_rfl) (fun _ _ _ h => h) (Or.inl ⟨by rfl, ?hyd119⟩) (by assumption) ?restd119
  case hyd119 => (intro V hSw; (try dsimp only at hSw); go_simp; first | done | (with_reducible rfl))
  try simp only [Act.put, List.setIfInBounds_toArray, List.set_cons_zero, List.set_cons_succ]
  refine wpAnyH_take (i := 22) (oi := ⟨some 8, _, _, _, _, _⟩) (v := ?vd120) rfl (by kernel_rfl) (by kernel_rfl) (by kernel_rfl) (fun _ _ _ h => h) (Or.inl ⟨by rfl, ?hyd120⟩) (by assumption) ?restd120
  case hyd120 => (intro V hSw; (try dsimp only at hSw); go_simp; first | done | (with_reducible rfl))
  try simp only [Act.put, List.setIfInBounds_toArray, List.set_cons_zero, List.set_cons_succ]
  refine wpAnyH_done (by kernel_rfl) ?_ _
  go_wp2_with fail
  refine bodyPost_ret (v := .tuple #[.pointer (some ⟨g, 0, none⟩), .pointer (some ⟨d, 0, none⟩), .bool true]) (do_results _ _ _ _ _ rfl rfl rfl) rfl ?_
  exact ⟨g, mb, Bs', rfl, S4.out, D4.out, wide_only (OX.out.trans0 (Only.refl _ _)) (by simp) |>.trans' OS4.out, .inl ⟨rfl, rfl⟩⟩
set_option maxHeartbeats 4000000 in
theorem do_mask (hS : SG w g mb T S L M Bs) (hD : DS w d T S L M) (t n v : Int) (s : Nat) (hs : s < 4294967296) :
    Calls Try.prog 15 #[ptr g, ptr d, .agg (stpC 2 t n v s)] w (DoE w g mb d T S L (setMI M T t s)) := by
  obtain ⟨X, hX⟩ : ∃ X, w.heap.size = X := ⟨_, rfl⟩
  have oX : Only [] w (w.alloc (.cells (stpC 2 t n v s) 33)) := (Only.refl [] w).alloc _
  have bX := Blk.new w 33 (stpC 2 t n v s)
  rw [hX] at bX
  obtain ⟨hdg, hdm, hdB⟩ := hD.ne hS
  have hgm := hS.ne
  obtain ⟨hgl, hml, hBl⟩ := hS.lt
  have hdl := hD.lt
  rw [hX] at hgl hml hdl
  have hSX := hS.only0 oX
  have hDX := hD.only0 oX
  have hns := hSX.noS
  unfold stpC at oX bX hSX hDX hns
  obtain ⟨W, hW⟩ : ∃ W, w.alloc (.cells #[.int .i64 2, .int .i64 t, .int .i64 n, .int .i64 v, .int .u32 s] 33) = W := ⟨_, rfl⟩
  have hWX : W.heap.size = X + 1 := by rw [← hW, ← hX]; simp
  rw [hW] at oX bX hSX hDX hns
  have k0 : W.cell? ⟨X, 0, none⟩ = some (.int .i64 2) := (bX.cell 0).trans rfl
  have KX := hide (fun V (o : Only [g, mb, d] W V) => (by
    have hb := bX.only o (by simp; omega)
    exact ⟨hb.cell 1, hb.cell 2, hb.cell 3, hb.cell 4⟩ : V.cell? ⟨X, 1, none⟩ = some (.int .i64 t) ∧ V.cell? ⟨X, 2, none⟩ = some (.int .i64 n) ∧ V.cell? ⟨X, 3, none⟩ = some (.int .i64 v) ∧ V.cell? ⟨X, 4, none⟩ = some (.int .u32 s)))
  have OX := hide oX
  have HSX := hide hSX
  have HDX := hide hDX
  have HNS := hide hns
  have HDB := hide hdB
  have HNE := hide hgm
  have A1 := setmask_any hSX t s hs
  have k1 : W.cell? ⟨X, 1, none⟩ = some (.int .i64 t) := (KX.out W (Only.refl _ _)).1
  have k4 : W.cell? ⟨X, 4, none⟩ = some (.int .u32 s) := (KX.out W (Only.refl _ _)).2.2.2
  have B2 := hide (fun V (h : DS V d T S L M) => rsetmask_any h t s hs)
  unfold ptr at A1 B2
  have A1 := hide A1
  have z0 := fun (x : Int) => (BEq.rfl : (x == x) = true)
  clear hS hD hSX hDX hns oX bX hdB hBl
  unfold ptr stpC
  go_enter Try.func15, Try.ntmps15
  go_wp2_with (first
    | (go_at_call 19; (with_reducible refine A1.out.mono ?_); rintro e w2 ⟨rfl, S2, o2⟩; have o2' := o2.mono (T := [g, mb]) (by simp); have OS2 := hide (o2.mono (T := [g, mb, d]) (by simp)); have D2 := hide (HDX.out.only o2' (by simp; omega) HNS.out); obtain ⟨y1, y2, y3, y4⟩ := KX.out w2 OS2.out; have S2 := hide S2; clear o2 o2')
    | (go_at_call 28; (with_reducible refine (B2.out _ D2.out).mono ?_); rintro e w3 ⟨rfl, D3, o3⟩; have S3 := hide (S2.out.only o3 (by simp; omega) (by simp; omega) (fun b hb => by have := (D2.out.ne S2.out).2.2 b hb; simpa using this)); have OS3 := hide (OS2.out.trans o3 (fun x hx => .inl (by simp at hx; simp [hx]))); have D3 := hide D3; clear o3)
    | (go_at_call 9; (with_reducible refine (num_any _ _).mono ?_); rintro e w' ⟨rfl, hw⟩; obtain rfl := hw.symm; clear hw))
  refine bodyPost_ret (v := .tuple #[.pointer (some ⟨g, 0, none⟩), .pointer (some ⟨d, 0, none⟩), .bool true]) (do_results _ _ _ _ _ rfl rfl rfl) rfl ?_
  exact ⟨g, mb, Bs, rfl, S3.out, D3.out, wide_only OX.out (by simp) |>.trans' OS3.out, .inl ⟨rfl, rfl⟩⟩
set_option maxHeartbeats 4000000 in
theorem do_clear (hS : SG w g mb T S L M Bs) (hD : DS w d T S L M) (t n v : Int) (s : Nat) (hs : s < 4294967296) :
    Calls Try.prog 15 #[ptr g, ptr d, .agg (stpC 4 t n v s)] w (DoE w g mb d T S (clrL T L t) (clrM M T t)) := by
  obtain ⟨X, hX⟩ : ∃ X, w.heap.size = X := ⟨_, rfl⟩
  have oX : Only [] w (w.alloc (.cells (stpC 4 t n v s) 33)) := (Only.refl [] w).alloc _
  have bX := Blk.new w 33 (stpC 4 t n v s)
  rw [hX] at bX
  obtain ⟨hdg, hdm, hdB⟩ := hD.ne hS
  have hgm := hS.ne
  obtain ⟨hgl, hml, hBl⟩ := hS.lt
  have hdl := hD.lt
  rw [hX] at hgl hml hdl
  have hSX := hS.only0 oX
  have hDX := hD.only0 oX
  have hns := hSX.noS
  unfold stpC at oX bX hSX hDX hns
  obtain ⟨W, hW⟩ : ∃ W, w.alloc (.cells #[.int .i64 4, .int .i64 t, .int .i64 n, .int .i64 v, .int .u32 s] 33) = W := ⟨_, rfl⟩
  have hWX : W.heap.size = X + 1 := by rw [← hW, ← hX]; simp
  rw [hW] at oX bX hSX hDX hns
  have k0 : W.cell? ⟨X, 0, none⟩ = some (.int .i64 4) := (bX.cell 0).trans rfl
  have KX := hide (fun V (o : Only [g, mb, d] W V) => (by
    have hb := bX.only o (by simp; omega)
    exact ⟨hb.cell 1, hb.cell 2, hb.cell 3, hb.cell 4⟩ : V.cell? ⟨X, 1, none⟩ = some (.int .i64 t) ∧ V.cell? ⟨X, 2, none⟩ = some (.int .i64 n) ∧ V.cell? ⟨X, 3, none⟩ = some (.int .i64 v) ∧ V.cell? ⟨X, 4, none⟩ = some (.int .u32 s)))
  have OX := hide oX
  have HSX := hide hSX
  have HDX := hide hDX
  have HNS := hide hns
  have HDB := hide hdB
  have HNE := hide hgm
  have A1 := clear_spec hSX t
  have k1 : W.cell? ⟨X, 1, none⟩ = some (.int .i64 t) := (KX.out W (Only.refl _ _)).1
  have k4 : W.cell? ⟨X, 4, none⟩ = some (.int .u32 s) := (KX.out W (Only.refl _ _)).2.2.2
  have B2 := hide (fun V (h : DS V d T S L M) => rclear_any h t)
  unfold ptr at A1 B2
  have A1 := hide A1
  have z0 := fun (x : Int) => (BEq.rfl : (x == x) = true)
  clear hS hD hSX hDX hns oX bX hdB hBl
  unfold ptr stpC
  go_enter Try.func15, Try.ntmps15
  go_wp2_with (first
    | (go_at_call 20; (with_reducible refine A1.out.mono ?_); rintro e w2 ⟨rfl, S2, o2⟩; have o2' := o2.mono (T := [g, mb]) (by simp); have OS2 := hide (o2.mono (T := [g, mb, d]) (by simp)); have D2 := hide (HDX.out.only o2' (by simp; omega) HNS.out); obtain ⟨y1, y2, y3, y4⟩ := KX.out w2 OS2.out; have S2 := hide S2; clear o2 o2')
    | (go_at_call 30; (with_reducible refine (B2.out _ D2.out).mono ?_); rintro e w3 ⟨rfl, D3, o3⟩; have S3 := hide (S2.out.only o3 (by simp; omega) (by simp; omega) (fun b hb => by have := (D2.out.ne S2.out).2.2 b hb; simpa using this)); have OS3 := hide (OS2.out.trans o3 (fun x hx => .inl (by simp at hx; simp [hx]))); have D3 := hide D3; clear o3)
    | (go_at_call 9; (with_reducible refine (num_any _ _).mono ?_); rintro e w' ⟨rfl, hw⟩; obtain rfl := hw.symm; clear hw))
  refine bodyPost_ret (v := .tuple #[.pointer (some ⟨g, 0, none⟩), .pointer (some ⟨d, 0, none⟩), .bool true]) (do_results _ _ _ _ _ rfl rfl rfl) rfl ?_
  exact ⟨g, mb, Bs, rfl, S3.out, D3.out, wide_only OX.out (by simp) |>.trans' OS3.out, .inl ⟨rfl, rfl⟩⟩
set_option maxHeartbeats 4000000 in
theorem do_next (hS : SG w g mb T S L M Bs) (hD : DS w d T S L M) (t n v : Int) (s : Nat) (hs : s < 4294967296) :
    Calls Try.prog 15 #[ptr g, ptr d, .agg (stpC 3 t n v s)] w (DoE w g mb d T S (nextL T L t s) M) := by
  obtain ⟨X, hX⟩ : ∃ X, w.heap.size = X := ⟨_, rfl⟩
  have oX : Only [] w (w.alloc (.cells (stpC 3 t n v s) 33)) := (Only.refl [] w).alloc _
  have bX := Blk.new w 33 (stpC 3 t n v s)
  rw [hX] at bX
  obtain ⟨hdg, hdm, hdB⟩ := hD.ne hS
  have hgm := hS.ne
  obtain ⟨hgl, hml, hBl⟩ := hS.lt
  have hdl := hD.lt
  rw [hX] at hgl hml hdl
  have hSX := hS.only0 oX
  have hDX := hD.only0 oX
  have hns := hSX.noS
  unfold stpC at oX bX hSX hDX hns
  obtain ⟨W, hW⟩ : ∃ W, w.alloc (.cells #[.int .i64 3, .int .i64 t, .int .i64 n, .int .i64 v, .int .u32 s] 33) = W := ⟨_, rfl⟩
  have hWX : W.heap.size = X + 1 := by rw [← hW, ← hX]; simp
  rw [hW] at oX bX hSX hDX hns
  have k0 : W.cell? ⟨X, 0, none⟩ = some (.int .i64 3) := (bX.cell 0).trans rfl
  have KX := hide (fun V (o : Only [g, mb, d] W V) => (by
    have hb := bX.only o (by simp; omega)
    exact ⟨hb.cell 1, hb.cell 2, hb.cell 3, hb.cell 4⟩ : V.cell? ⟨X, 1, none⟩ = some (.int .i64 t) ∧ V.cell? ⟨X, 2, none⟩ = some (.int .i64 n) ∧ V.cell? ⟨X, 3, none⟩ = some (.int .i64 v) ∧ V.cell? ⟨X, 4, none⟩ = some (.int .u32 s)))
  have OX := hide oX
  have HSX := hide hSX
  have HDX := hide hDX
  have HNS := hide hns
  have HDB := hide hdB
  have HNE := hide hgm
  have A1 := next_spec hSX t s hs
  have k1 : W.cell? ⟨X, 1, none⟩ = some (.int .i64 t) := (KX.out W (Only.refl _ _)).1
  have k4 : W.cell? ⟨X, 4, none⟩ = some (.int .u32 s) := (KX.out W (Only.refl _ _)).2.2.2
  have B2 := fun V (h : DS V d T S L M) => rnext_spec h t s hs
  obtain ⟨a, b, c, hp⟩ : ∃ (a : Nat) (b : Int) (c : Bool), sigV (peekI T L t s) = .tuple #[.agg #[.int .i64 (a : Int), .int .i64 b], .bool c] := by
    cases peekI T L t s with
    | none => exact ⟨0, 0, false, rfl⟩
    | some x => exact ⟨x.1, x.2, true, rfl⟩
  rw [hp] at A1
  simp only [hp] at B2
  unfold ptr at A1 B2
  have A1 := hide A1
  have B2 := hide B2
  have z0 := fun W => eql36 (a : Int) (a : Int) b b W
  simp only [BEq.rfl, Bool.and_self] at z0
  have HX := hide hX
  clear hS hD hSX hDX hns oX bX hdB hBl hp
  unfold ptr stpC
  go_enter Try.func15, Try.ntmps15
  go_wp2_with (first
    | (go_at_call 11; (with_reducible refine A1.out.mono ?_); rintro e w2 ⟨rfl, S2, o2⟩; have OS2 := hide (o2.mono (T := [g, mb, d]) (by simp)); have D2 := hide (HDX.out.only o2 (by simp; omega) HNS.out); obtain ⟨y1, y2, y3, y4⟩ := KX.out (w2.alloc (.cells #[.int .i64 (a : Int), .int .i64 b] 36)) (OS2.out.alloc _); have S2 := hide S2; clear o2)
    | (go_at_call 29; (with_reducible refine (B2.out _ (D2.out.only0 ((Only.refl [] w2).alloc _))).mono ?_); rintro e w3 ⟨rfl, D3, o3⟩; have S2a := S2.out.only0 ((Only.refl [] w2).alloc (.cells #[.int .i64 (a : Int), .int .i64 b] 36)); have D2a := D2.out.only0 ((Only.refl [] w2).alloc (.cells #[.int .i64 (a : Int), .int .i64 b] 36)); have S3 := hide (S2a.only o3 (by simp; omega) (by simp; omega) (fun b hb => by have := (D2a.ne S2a).2.2 b hb; simpa using this)); have OS3 := hide ((OS2.out.alloc (.cells #[.int .i64 (a : Int), .int .i64 b] 36)).trans o3 (fun x hx => .inl (by simp at hx; simp [hx]))); have D3 := hide D3; have hz := OS2.out.size; have bb := ((Blk.new w2 36 #[.int .i64 (a : Int), .int .i64 b]).only o3 (by simp; omega)).alloc (.cells #[.int .i64 (a : Int), .int .i64 b] 36); have u0 := bb.cell 0; have u1 := bb.cell 1; clear o3 bb S2a D2a))
  refine bodyPost_ret (v := .tuple #[.pointer (some ⟨g, 0, none⟩), .pointer (some ⟨d, 0, none⟩), .bool true]) (do_results _ _ _ _ _ rfl rfl rfl) rfl ?_
  exact ⟨g, mb, Bs, rfl, S3.out.only0 ((Only.refl [] _).alloc _), D3.out.only0 ((Only.refl [] _).alloc _), (wide_only OX.out (by simp) |>.trans' OS3.out).alloc _, .inl ⟨rfl, rfl⟩⟩
set_option maxHeartbeats 4000000 in
theorem do_copy (hS : SG w g mb T S L M Bs) (hD : DS w d T S L M) (t n v : Int) (s : Nat) :
    Calls Try.prog 15 #[ptr g, ptr d, .agg (stpC 5 t n v s)] w (DoE w g mb d T S L M) := by
  obtain ⟨X, hX⟩ : ∃ X, w.heap.size = X := ⟨_, rfl⟩
  have oX : Only [] w (w.alloc (.cells (stpC 5 t n v s) 33)) := (Only.refl [] w).alloc _
  have bX := Blk.new w 33 (stpC 5 t n v s)
  rw [hX] at bX
  obtain ⟨hdg, hdm, hdB⟩ := hD.ne hS
  have hgm := hS.ne
  obtain ⟨hgl, hml, hBl⟩ := hS.lt
  have hdl := hD.lt
  rw [hX] at hgl hml hdl
  have hSX := hS.only0 oX
  have hDX := hD.only0 oX
  have hns := hSX.noS
  unfold stpC at oX bX hSX hDX hns
  obtain ⟨W, hW⟩ : ∃ W, w.alloc (.cells #[.int .i64 5, .int .i64 t, .int .i64 n, .int .i64 v, .int .u32 s] 33) = W := ⟨_, rfl⟩
  have hWX : W.heap.size = X + 1 := by rw [← hW, ← hX]; simp
  rw [hW] at oX bX hSX hDX hns
  have k0 : W.cell? ⟨X, 0, none⟩ = some (.int .i64 5) := (bX.cell 0).trans rfl
  have KX := hide (fun V (o : Only [g, mb, d] W V) => (by
    have hb := bX.only o (by simp; omega)
    exact ⟨hb.cell 1, hb.cell 2, hb.cell 3, hb.cell 4⟩ : V.cell? ⟨X, 1, none⟩ = some (.int .i64 t) ∧ V.cell? ⟨X, 2, none⟩ = some (.int .i64 n) ∧ V.cell? ⟨X, 3, none⟩ = some (.int .i64 v) ∧ V.cell? ⟨X, 4, none⟩ = some (.int .u32 s)))
  have OX := hide oX
  have HSX := hide hSX
  have HDX := hide hDX
  have HNS := hide hns
  have HDB := hide hdB
  have HNE := hide hgm
  have A1 := copy_spec hSX
  unfold ptr CopyE ptr at A1
  have A1 := hide A1
  have SM := hide (fun V g1 m1 C1 g2 m2 C2 (h : SG V g1 m1 T S L M C1) (h' : SG V g2 m2 T S L M C2) => by have := same_spec h h'; rw [sameS_refl] at this; unfold ptr at this; exact this)
  have SN := hide (fun V (h : SG V g mb T S L M Bs) => by have := send_spec h 0 31 99; unfold ptr at this; exact this)
  have NX := hide (fun V C L' (h : SG V g mb T S L' M C) => by have := next_spec h 0 4294967295 (by decide); unfold ptr at this; exact this)
  have MK := hide (fun V C L' (h : SG V g mb T S L' M C) => by have := setmask_any h 0 77 (by decide); unfold ptr at this; exact this)
  clear hS hD hSX hDX hns oX bX hdB hBl
  unfold ptr stpC
  go_enter Try.func15, Try.ntmps15
  go_wp2_with (first
    | (go_at_call 31; (with_reducible refine A1.out.mono ?_); rintro e w2 ⟨g', mb', Cs, rfl, S2, hg', hm', hC', o2⟩; have HG' := hide hg'; have HM' := hide hm'; have HC' := hide hC'; have D2 := hide (HDX.out.only0 o2); have R2 := hide (HSX.out.only0 o2); have O2 := hide o2; have S2 := hide S2; clear o2 hg' hm' hC')
    | (go_at_call 17; (with_reducible refine (SM.out _ _ _ _ _ _ _ S2.out R2.out).mono ?_); rintro e w3 ⟨rfl, o3⟩; have D3 := hide (D2.out.only0 o3); have R3 := hide (R2.out.only0 o3); have S3 := hide (S2.out.only0 o3); have O3 := hide (O2.out.trans0 o3); clear o3)
    | (go_at_call 10; (with_reducible refine (SN.out _ R3.out).mono ?_); rintro e w4 ⟨rfl, ⟨Ds, R4, _⟩, o4⟩; have R4 := hide R4; have D4 := hide (D3.out.only o4 (by simp; omega) R3.out.noS); have S4 := hide (S3.out.only o4 (by have := HG'.out; simp; omega) (by have := HM'.out; simp; omega) (fun b hb => by have := HC'.out b hb; simp; omega)); have O4 := hide (O3.out.mono (T := [g, mb]) (by simp) |>.trans' o4); clear o4)
    | (go_at_call 11; refine (NX.out _ _ _ R4.out).mono ?_; rintro e w5 ⟨rfl, R5, o5⟩; have R5 := hide R5; have D5 := hide (D4.out.only o5 (by simp; omega) R4.out.noS); have S5 := hide (S4.out.only o5 (by have := HG'.out; simp; omega) (by have := HM'.out; simp; omega) (fun b hb => by have := HC'.out b hb; simp; omega)); have O5 := hide (O4.out.trans' o5); clear o5)
    | (go_at_call 19; refine (MK.out _ _ _ R5.out).mono ?_; rintro e w6 ⟨rfl, R6, o6⟩; have D6 := hide (D5.out.only o6 (by simp; omega) (fun k hk => R5.out.noS k (by simp at hk; simp [hk]))); have S6 := hide (S5.out.only o6 (by have := HG'.out; simp; omega) (by have := HM'.out; simp; omega) (fun b hb => by have := HC'.out b hb; simp; omega)); have O6 := hide (O5.out.trans' (o6.mono (T := [g, mb]) (by simp))); clear o6 R6))
  refine bodyPost_ret (v := .tuple #[.pointer (some ⟨g', 0, none⟩), .pointer (some ⟨d, 0, none⟩), .bool true]) (do_results _ _ _ _ _ rfl rfl rfl) rfl ?_
  exact ⟨g', mb', Cs, rfl, S6.out, D6.out, wide_only (wide_only OX.out (T := [g, mb]) (by simp) |>.trans' O6.out) (by simp), .inr ⟨by have := HG'.out; omega, by have := HM'.out; omega⟩⟩
set_option maxHeartbeats 4000000 in
theorem do_else (hS : SG w g mb T S L M Bs) (hD : DS w d T S L M) (k t n v : Int) (s : Nat) (c1 : k ≠ 1) (c2 : k ≠ 2) (c3 : k ≠ 3) (c4 : k ≠ 4) (c5 : k ≠ 5) :
    Calls Try.prog 15 #[ptr g, ptr d, .agg (stpC k t n v s)] w (DoE w g mb d T S L M) := by
  obtain ⟨X, hX⟩ : ∃ X, w.heap.size = X := ⟨_, rfl⟩
  have oX : Only [] w (w.alloc (.cells (stpC k t n v s) 33)) := (Only.refl [] w).alloc _
  have bX := Blk.new w 33 (stpC k t n v s)
  rw [hX] at bX
  obtain ⟨hdg, hdm, hdB⟩ := hD.ne hS
  have hgm := hS.ne
  obtain ⟨hgl, hml, hBl⟩ := hS.lt
  have hdl := hD.lt
  rw [hX] at hgl hml hdl
  have hSX := hS.only0 oX
  have hDX := hD.only0 oX
  have hns := hSX.noS
  unfold stpC at oX bX hSX hDX hns
  obtain ⟨W, hW⟩ : ∃ W, w.alloc (.cells #[.int .i64 k, .int .i64 t, .int .i64 n, .int .i64 v, .int .u32 s] 33) = W := ⟨_, rfl⟩
  have hWX : W.heap.size = X + 1 := by rw [← hW, ← hX]; simp
  rw [hW] at oX bX hSX hDX hns
  have k0 : W.cell? ⟨X, 0, none⟩ = some (.int .i64 k) := (bX.cell 0).trans rfl
  have KX := hide (fun V (o : Only [g, mb, d] W V) => (by
    have hb := bX.only o (by simp; omega)
    exact ⟨hb.cell 1, hb.cell 2, hb.cell 3, hb.cell 4⟩ : V.cell? ⟨X, 1, none⟩ = some (.int .i64 t) ∧ V.cell? ⟨X, 2, none⟩ = some (.int .i64 n) ∧ V.cell? ⟨X, 3, none⟩ = some (.int .i64 v) ∧ V.cell? ⟨X, 4, none⟩ = some (.int .u32 s)))
  have OX := hide oX
  have HSX := hide hSX
  have HDX := hide hDX
  have HNS := hide hns
  have HDB := hide hdB
  have HNE := hide hgm
  have z1 : (k == 1) = false := by simpa using c1
  have z2 : (k == 2) = false := by simpa using c2
  have z3 : (k == 3) = false := by simpa using c3
  have z4 : (k == 4) = false := by simpa using c4
  have z5 : (k == 5) = false := by simpa using c5
  clear hS hD hSX hDX hns oX bX hdB hBl c1 c2 c3 c4 c5
  unfold ptr stpC
  go_enter Try.func15, Try.ntmps15
  go_wp2_with fail
  refine bodyPost_ret (v := .tuple #[.pointer (some ⟨g, 0, none⟩), .pointer (some ⟨d, 0, none⟩), .bool true]) (do_results _ _ _ _ _ rfl rfl rfl) rfl ?_
  exact ⟨g, mb, Bs, rfl, HSX.out, HDX.out, wide_only OX.out (by simp), .inl ⟨rfl, rfl⟩⟩
theorem do_spec (hS : SG w g mb T S L M Bs) (hD : DS w d T S L M) (hl : L.length < 1000) (k t n v : Int) (s : Nat) (hs : s < 4294967296) :
    Calls Try.prog 15 #[ptr g, ptr d, .agg (stpC k t n v s)] w (DoE w g mb d T S (stepL T S L k t n v s) (stepM T M k t s)) := by
  unfold stepL stepM
  by_cases c1 : k = 1
  · subst c1; exact do_send hS hD hl t n v s
  by_cases c2 : k = 2
  · subst c2; exact do_mask hS hD t n v s hs
  by_cases c3 : k = 3
  · subst c3; exact do_next hS hD t n v s hs
  by_cases c4 : k = 4
  · subst c4; exact do_clear hS hD t n v s hs
  rw [if_neg c1, if_neg c3, if_neg c4, if_neg c2, if_neg c4]
  by_cases c5 : k = 5
  · subst c5; exact do_copy hS hD t n v s
  · exact do_else hS hD k t n v s c1 c2 c3 c4 c5
end
end Go.Proofs.Ytnmlcijkggfhmaa
