/- Signals: the walk of nothing. Condition: the signals are not there, or a zero. -/
import Derived.Test.YtnmlcijkggfhmaaSf5
namespace Go.Proofs.Ytnmlcijkggfhmaa
open Go.RowKit Go.Shelf Go.BigFrame
set_option linter.unusedVariables false
set_option linter.all false
set_option maxRecDepth 100000
attribute [local go_sem] Oper.semAt_some
set_option maxHeartbeats 16000000 in
theorem nothing_any (a : Option Addr) (w : World) (h : NoSig (.pointer a) w) (SM : ∀ V, Only [] w V → Calls Try.prog 17 #[.pointer a, .pointer none] V fun e w' => e = .returned (.bool true) ∧ w' = V) :
    Calls Try.prog 21 #[.pointer a] w fun e w' => e = .returned (.bool true) ∧ Only [] w w' := by
  have NS := hide h
  have SM := hide SM
  clear h
  have A19 := hide (show ∀ V, Only [] w V → Calls Try.prog 19 #[.pointer a, .int .i64 0, .int .u32 1] V fun e w' => e = .returned (.tuple #[.int .u32 0, .int .i64 1]) ∧ w' = V from fun V o => setmask_no (.pointer a) 0 1 V (NS.out.only0 o))
  have A23 := hide (show ∀ V, Only [] w V → Calls Try.prog 23 #[.pointer a, .int .i64 0, .int .u32 4294967295] V fun e w' => e = .returned (.tuple #[.agg #[.int .i64 0, .int .i64 0], .bool false]) ∧ Only [] V w' from fun V o => peek_no a 0 4294967295 (by decide) V (NS.out.only0 o))
  have A11 := hide (show ∀ V, Only [] w V → Calls Try.prog 11 #[.pointer a, .int .i64 0, .int .u32 4294967295] V fun e w' => e = .returned (.tuple #[.agg #[.int .i64 0, .int .i64 0], .bool false]) ∧ Only [] V w' from fun V o => next_no a 0 4294967295 (by decide) V (NS.out.only0 o))
  have A20 := hide (fun V (o : Only [] w V) => clear_no (.pointer a) 0 V (NS.out.only0 o))
  have AL := hide (fun W => all_any a 0 W)
  have bR := Blk.new w 4 #[.bool false]
  have OW := hide ((Only.refl [] w).alloc (.cells #[.bool false] 4))
  have hNF := fun A B W => eq_nilFunc (Fn.func 46) A B W
  refine (callsIn_wide (n := 8)).1 ?_
  refine callsIn_of_wp_marks Try.func21 rfl trivial ?_ rfl
  simp only [Try.ntmps21, List.size_toArray, List.length_cons, List.length_nil, Nat.reduceAdd, Nat.reduceSub, Array.replicate_succ, Array.replicate_zero, List.push_toArray, List.append_toArray, List.nil_append, List.cons_append]
  refine wpIn_wide.2 ?_
  go_wp2_with (first
    | (go_at_call 19; (with_reducible refine (A19.out _ OW.out).mono ?_); rintro e w1 ⟨rfl, hw⟩; obtain rfl := hw.symm; clear hw)
    | (go_at_call 23; (with_reducible refine (A23.out _ OW.out).mono ?_); rintro e w2 ⟨rfl, o2⟩; have O2 := hide ((OW.out.trans0 o2).alloc (.cells #[.int .i64 0, .int .i64 0] 36)); have B2 := hide ((bR.only o2 (by simp)).alloc (.cells #[.int .i64 0, .int .i64 0] 36)); clear o2)
    | (go_at_call 11; (with_reducible refine (A11.out _ O2.out).mono ?_); rintro e w3 ⟨rfl, o3⟩; have O3 := hide ((O2.out.trans0 o3).alloc (.cells #[.int .i64 0, .int .i64 0] 36)); have B3 := hide ((B2.out.only o3 (by simp)).alloc (.cells #[.int .i64 0, .int .i64 0] 36)); clear o3)
    | (go_at_call 20; (with_reducible refine (A20.out _ O3.out).mono ?_); rintro e w1 ⟨rfl, hw⟩; obtain rfl := hw.symm; clear hw)
    | (go_at_call 37; (with_reducible refine (AL.out _).mono ?_); rintro e w' ⟨rfl, rfl⟩))
  obtain ⟨Y, hY⟩ : ∃ Y, w3.heap.size = Y := ⟨_, rfl⟩
  obtain ⟨X, hX⟩ : ∃ X, w.heap.size = X := ⟨_, rfl⟩
  have bX := (Blk.new (w3.alloc (.cells #[.int .i64 0, .int .i64 0] 36)) 24 #[.pointer a]).alloc (.cells #[.int .i64 0] 3)
  have bT := Blk.new ((w3.alloc (.cells #[.int .i64 0, .int .i64 0] 36)).alloc (.cells #[.pointer a] 24)) 3 #[.int .i64 0]
  have b7 := (B3.out.alloc (.cells #[.pointer a] 24)).alloc (.cells #[.int .i64 0] 3)
  have o7 := (O3.out.alloc (.cells #[.pointer a] 24)).alloc (.cells #[.int .i64 0] 3)
  have hs7 : (((w3.alloc (.cells #[.int .i64 0, .int .i64 0] 36)).alloc (.cells #[.pointer a] 24)).alloc (.cells #[.int .i64 0] 3)).heap.size = Y + 3 := by simp [hY]
  simp only [World.size_alloc, hY] at bX bT
  obtain ⟨W7, hW7⟩ : ∃ W7, (((w3.alloc (.cells #[.int .i64 0, .int .i64 0] 36)).alloc (.cells #[.pointer a] 24)).alloc (.cells #[.int .i64 0] 3)) = W7 := ⟨_, rfl⟩
  rw [hW7] at bX bT b7 o7 hs7 ⊢
  rw [hX] at b7
  rw [hX, hY]
  have N7 := NS.out.only0 o7
  have hXY : X < Y + 3 := by rw [← hs7]; exact b7.lt
  have O7 := hide o7
  clear hW7 hY O3 O2 B2 B3 hNF bR OW A19 A23 A11 A20 AL o7
  refine (wpIn_wide (n := 8)).1 ?_
  refine' wpIn_rangeFunc_ownH (F := Fence.wide) (n := 8) rfl (by decide) (gf := 46) (lb := #[.pointer (some ⟨Y + 1, 0, none⟩), .pointer (some ⟨Y + 1 + 1, 0, none⟩)]) rfl trivial (enters_of Try.func46 (by kernel_rfl) rfl)
    (all_stops_no W7 7 (Y + 1) (Y + 1 + 1) (Y + 3) [] (by decide) a 0 (by omega) (by simp) (by simp) bX bT N7)
    (fun h k => h.trans k) (fun W l o o' hl h hc hw => Kpx.putObj W l o o' (by omega)) (Below.refl _ _) (fun _ => rfl)
    (fun pre W => pre <+: [] ∧ Blk W X 4 #[.bool false] ∧ Only [] W7 W)
    (fun c pre W => c = .ret ∧ ¬ pre <+: [])
    (fun s A B row hs hg hr => by
      obtain ⟨h1, h2, h3⟩ := hs
      exact ⟨h1, blk_turn h2 hg (fun r e => (hr r e).2), h3.grown hg (fun k e => .inr (by have := (hr k e).1; omega))⟩)
    (fun c s A B row hs hg hr => hs)
    ⟨List.nil_prefix, b7, Only.refl _ _⟩ (fun x a' W => True)
    (fun x a' s A B row hs hg hr => hs) ?assign ?body ?done ?stop
  case assign =>
    rintro l pre x W K ⟨h1, h2, h3⟩ hK
    gi_wp2
    exact hK _ _ (kf_only0 (Only.refl [] W)) (Kpx.only0 (Only.refl [] W) (by have := h3.size; omega)) ⟨h1, h2, h3⟩ trivial
  case body =>
    rintro l pre x a' W hl0 ⟨r0, hr0⟩ ⟨hpre, hb, hO⟩ - hlt
    exact absurd hlt (by simp)
  case done =>
    rintro D ys V1 hDa rfl ⟨-, hb, hO⟩ hK1
    have OV := hide (O7.out.trans0 hO)
    have NV := hide (NS.out.only0 OV.out)
    have SV := hide (SM.out _ OV.out)
    have S10 := hide (send_no (.pointer a) 0 1 1 V1 NV.out)
    have S24 := hide (mask_no (.pointer a) 0 V1 NV.out)
    have S13 := hide (pending_no (.pointer a) 0 V1 NV.out)
    have S22 := open_no (.pointer a) 0 V1 NV.out
    rw [show bits .andNot .u32 0 0 = 0 by decide] at S22
    have S22 := hide S22
    have S12 := hide (used_no (.pointer a) V1 NV.out)
    have S31 := hide (copy_no (.pointer a) V1 NV.out)
    have cX : V1.cell? ⟨X, 0, none⟩ = some (.bool false) := by simpa using hb.cell 0
    have fX := hb.frozen 0
    have yX : (V1.setCell ⟨X, 0, none⟩ (.bool true)).cell? ⟨X, 0, none⟩ = some (.bool true) := World.cell?_setCell_same _ _ _ cX
    have HB := hide hb
    have HK := hide hK1
    have hDD : w.heap.size ≤ D := by have := O7.out.size; omega
    have HDD := hide hDD
    have HX := hide hX
    clear hO hb hDa hK1 bX bT b7 hDD hX
    gi_wp2
    go_wp2_with (first
      | (go_at_call 9; refine (num_any _ _).mono ?_; rintro e w' ⟨rfl, hw⟩; obtain rfl := hw.symm; clear hw)
      | (go_at_call 10; (with_reducible refine S10.out.mono ?_); rintro e w' ⟨rfl, hw⟩; obtain rfl := hw.symm; clear hw)
      | (go_at_call 24; (with_reducible refine S24.out.mono ?_); rintro e w' ⟨rfl, hw⟩; obtain rfl := hw.symm; clear hw)
      | (go_at_call 13; (with_reducible refine S13.out.mono ?_); rintro e w' ⟨rfl, hw⟩; obtain rfl := hw.symm; clear hw)
      | (go_at_call 22; (with_reducible refine S22.out.mono ?_); rintro e w' ⟨rfl, hw⟩; obtain rfl := hw.symm; clear hw)
      | (go_at_call 12; (with_reducible refine S12.out.mono ?_); rintro e w' ⟨rfl, hw⟩; obtain rfl := hw.symm; clear hw)
      | (go_at_call 31; (with_reducible refine S31.out.mono ?_); rintro e w' ⟨rfl, hw⟩; obtain rfl := hw.symm; clear hw)
      | (go_at_call 17; (with_reducible refine SV.out.mono ?_); rintro e w' ⟨rfl, hw⟩; obtain rfl := hw.symm; clear hw))
    have qD := defer_set (p := ⟨X, 0, none⟩) (u := .bool true) HK.out
    have OO := (OV.out.mono (T := [X]) (by simp)).setCell (p := ⟨X, 0, none⟩) (.inl (by simp)) (.bool true)
    clear cX fX HB HK OV NV SV S10 S24 S13 S22 S12 S31
    generalize V1.setCell ⟨X, 0, none⟩ (.bool true) = U at *
    refine ⟨by simp, .inl ⟨_, _, rfl, run_takeDeferred qD, ?_⟩⟩
    replace yX := cell_kept yX (grownBy_putObj' _ D (.deferred none)) (fun r e => by cases e; exact ⟨_, qD, rfl⟩)
    replace OO := OO.grown (grownBy_putObj' _ D (.deferred none)) (fun k e => by cases e; exact .inr HDD.out)
    generalize U.putObj D (.deferred none) = U3 at *
    have OW2 : Only [] w U3 := OO.mono (fun x hx => .inr (by have := HX.out; simp at hx; omega))
    exact ⟨.bool true, by simp [results, Try.results21, Try.f21, go_sem, yX], rfl, OW2⟩
  case stop =>
    rintro D cc pre V1 hDb hpre ⟨-, h⟩ hK1
    exact absurd hpre h
theorem nothing_nil (w : World) : Calls Try.prog 21 #[.pointer none] w fun e w' => e = .returned (.bool true) ∧ Only [] w w' :=
  nothing_any none w (NoSig.nil w) fun V o => same_no1 none false V (NoSig.nil V).asks rfl
theorem nothing_zero (g : Nat) (w : World) (h : w.cell? ⟨g, 35, none⟩ = some (.map none)) : Calls Try.prog 21 #[.pointer (some ⟨g, 0, none⟩)] w fun e w' => e = .returned (.bool true) ∧ Only [] w w' :=
  nothing_any (some ⟨g, 0, none⟩) w (NoSig.zero h) fun V o => same_no (some ⟨g, 0, none⟩) none false false V ((NoSig.zero h).only0 o).asks (NoSig.nil V).asks rfl (by simp)
end Go.Proofs.Ytnmlcijkggfhmaa
