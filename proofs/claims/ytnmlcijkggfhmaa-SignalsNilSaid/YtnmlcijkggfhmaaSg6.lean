/- Signals, the program's: the walk of Peek. Condition: the signals lie, or are not there. -/
import Derived.Test.YtnmlcijkggfhmaaSg5
namespace Go.Proofs.Ytnmlcijkggfhmaa
open Go.RowKit
set_option linter.unusedVariables false
set_option linter.all false
set_option maxRecDepth 20000

theorem bit_at (st k : Nat) (h : st < 4294967296) : bits .and .u32 ((st : Int) / 2 ^ k) 1 = if st.testBit k then 1 else 0 := by
  have e : ((st : Int) / 2 ^ k) = ((st / 2 ^ k : Nat) : Int) := by simp
  have h1 : st / 2 ^ k < 4294967296 := Nat.lt_of_le_of_lt (Nat.div_le_self _ _) h
  rw [e, show (1 : Int) = ((1 : Nat) : Int) from rfl, u32_and_nat _ 1 h1 (by omega), Nat.and_one_is_mod, Nat.testBit_eq_decide_div_mod_eq]
  have h2 : st / 2 ^ k % 2 < 2 := Nat.mod_lt _ (by omega)
  by_cases c : st / 2 ^ k % 2 = 1
  · rw [c]; simp
  · have : st / 2 ^ k % 2 = 0 := by omega
    rw [this]; simp
set_option maxHeartbeats 1000000 in
theorem peek_none (s : Option Addr) (t : Int) (p W : Nat) (hp : p < 4294967296) (hW : W < 4294967296) (w : World) (hP : ∀ V, Only [] w V → Calls Try.prog 13 #[.pointer s, .int .i64 t] V fun e w' => e = .returned (.int .u32 (p : Nat)) ∧ w' = V) (hn : ∀ m, 1 ≤ m → m < 32 → (p &&& W).testBit m = false) :
    Calls Try.prog 23 #[.pointer s, .int .i64 t, .int .u32 W] w fun e w' => e = .returned (.tuple #[.agg #[.int .i64 0, .int .i64 0], .bool false]) ∧ Only [] w w' := by
  have P := hide (hP _ ((Only.refl [] w).alloc (.cells #[.int .i64 0, .int .i64 0] 36)))
  have z1 := u32_and_nat p W hp hW
  have hst2 : p &&& W < 4294967296 := Nat.lt_of_le_of_lt Nat.and_le_left hp
  obtain ⟨st, hst⟩ : ∃ st, p &&& W = st := ⟨_, rfl⟩
  rw [hst] at z1 hn hst2
  have HN := hide hn
  clear hP hst hn
  go_enter Try.func23, Try.ntmps23
  go_wp2_with fail
  go_step3
  go_wp2_with (go_at_call 13; refine P.out.mono ?_; rintro e w' ⟨rfl, hw⟩; obtain rfl := hw.symm; clear hw)
  go_step3
  go_wp2_with fail
  go_loopw [10] (fun vn wr => ∃ k : Nat, 1 ≤ k ∧ k ≤ 32 ∧ vn = .int .i64 k ∧ (w.alloc (.cells #[.int .i64 0, .int .i64 0] 36)).alloc (.cells #[.int .i64 0, .int .i64 0] 36) = wr) (fun vn _ => 32 - (intOf vn).toNat)
  case atStart => exact ⟨1, by omega, by omega, rfl, rfl⟩
  case round =>
    obtain ⟨k, k1, k2, rfl, hw⟩ := hrel
    obtain rfl := hw
    by_cases hlt : k < 32
    · have hb := HN.out k k1 hlt
      have z2 := bit_at st k hst2
      rw [hb, if_neg (by decide)] at z2
      have i0 : (k : Int) < 32 := by omega
      have i1 : (0 : Int) ≤ (k : Int) := by omega
      clear hb
      go_wp2_with fail
      go_roundw
      case rel => exact ⟨k + 1, by omega, by omega, by go_num, trivial⟩
      case measure => simp [intOf]; omega
    · obtain rfl : k = 32 := by omega
      go_wp2_with fail
      obtain ⟨V, hV⟩ : ∃ V, (w.alloc (.cells #[.int .i64 0, .int .i64 0] 36)).alloc (.cells #[.int .i64 0, .int .i64 0] 36) = V := ⟨_, rfl⟩
      have b0 := (Blk.new w 36 #[.int .i64 0, .int .i64 0]).alloc (.cells #[.int .i64 0, .int .i64 0] 36)
      have b1 := Blk.new (w.alloc (.cells #[.int .i64 0, .int .i64 0] 36)) 36 #[.int .i64 0, .int .i64 0]
      rw [World.size_alloc] at b1
      have oV : Only [] w ((w.alloc (.cells #[.int .i64 0, .int .i64 0] 36)).alloc (.cells #[.int .i64 0, .int .i64 0] 36)) := ((Only.refl [] w).alloc _).alloc _
      rw [hV] at b0 b1 oV ⊢
      clear hV
      have X := hide (fun U (o : Only [w.heap.size] V U) => show U.cell? ⟨w.heap.size + 1, 0, none⟩ = some (.int .i64 0) ∧ U.cell? ⟨w.heap.size + 1, 1, none⟩ = some (.int .i64 0) from ⟨((b1.only o (by simp)).cell 0).trans rfl, ((b1.only o (by simp)).cell 1).trans rfl⟩)
      have y0 := (b0.cell 0).trans (rfl : (#[Value.int .i64 0, .int .i64 0])[0]? = _)
      have y1 := (b0.cell 1).trans (rfl : (#[Value.int .i64 0, .int .i64 0])[1]? = _)
      have y2 := b0.frozen 0
      have y3 := b0.frozen 1
      clear b1
      refine wp_region_held_drew (S := (fun U => Only [w.heap.size] V U)) (by kernel_rfl) ((Only.refl [w.heap.size] V).drew) (fun hHeld => ?_)
      refine wpAnyH_take (i := 0) (oi := ⟨some 40, _, _, _, _, _⟩) (v := ?va1) rfl (by kernel_rfl) (by kernel_rfl) (by kernel_rfl) (fun _ _ _ h => h) (Or.inl ⟨by rfl, ?hya1⟩) (by assumption) ?resta1
      case hya1 => (intro V hSw; (try dsimp only at hSw); obtain ⟨z, z'⟩ := X.out V hSw; go_simp; first | done | (with_reducible rfl))
      try simp only [Act.put, List.setIfInBounds_toArray, List.set_cons_zero, List.set_cons_succ]
      refine wpAnyH_take (i := 1) (oi := ⟨some 41, _, _, _, _, _⟩) (v := ?va2) rfl (by kernel_rfl) (by kernel_rfl) (by kernel_rfl) (fun _ _ _ h => h) (Or.inl ⟨by rfl, ?hya2⟩) (by assumption) ?resta2
      case hya2 => (intro V hSw; (try dsimp only at hSw); go_simp; first | done | (with_reducible rfl))
      try simp only [Act.put, List.setIfInBounds_toArray, List.set_cons_zero, List.set_cons_succ]
      refine wpAnyH_take (i := 2) (oi := ⟨some 42, _, _, _, _, _⟩) (v := ?va3) rfl (by kernel_rfl) (by kernel_rfl) (by kernel_rfl) (fun _ _ _ h => h) (Or.inl ⟨by rfl, ?hya3⟩) (by assumption) ?resta3
      case hya3 => (intro V hSw; (try dsimp only at hSw); obtain ⟨z, z'⟩ := X.out V hSw; go_simp; first | done | (with_reducible rfl))
      try simp only [Act.put, List.setIfInBounds_toArray, List.set_cons_zero, List.set_cons_succ]
      refine wpAnyH_take (i := 3) (oi := ⟨some 43, _, _, _, _, _⟩) (v := ?va4) rfl (by kernel_rfl) (by kernel_rfl) (by kernel_rfl) (fun _ _ _ h => h) (Or.inl ⟨by rfl, ?hya4⟩) (by assumption) ?resta4
      case hya4 => (intro V hSw; (try dsimp only at hSw); go_simp; first | done | (with_reducible rfl))
      try simp only [Act.put, List.setIfInBounds_toArray, List.set_cons_zero, List.set_cons_succ]
      refine wpAnyH_ready (rs := [4]) (by kernel_rfl) (by simp) ?_
      refine AllReadyH.cons (o := ⟨none, _, _, _, _, _⟩) rfl (fun K hK => ?_) (AllReadyH.nil)
      rw [if_pos (by rfl)]
      go_simp
      try dsimp only
      refine hK.out _ _ ((((Only.refl [w.heap.size] V).setCell (p := ⟨w.heap.size, 0, none⟩) (.inl (by simp)) _).setCell (p := ⟨w.heap.size, 1, none⟩) (.inl (by simp)) _).drew) (fun hHeld => ?_)
      clear hK K
      try simp only [Act.put, List.setIfInBounds_toArray, List.set_cons_zero, List.set_cons_succ]
      refine wpAnyH_take (i := 5) (oi := ⟨some 7, _, _, _, _, _⟩) (v := ?va5) rfl (by kernel_rfl) (by kernel_rfl) (by kernel_rfl) (fun _ _ _ h => h) (Or.inl ⟨by rfl, ?hya5⟩) (by assumption) ?resta5
      case hya5 => (intro V hSw; (try dsimp only at hSw); go_simp; first | done | (with_reducible rfl))
      try simp only [Act.put, List.setIfInBounds_toArray, List.set_cons_zero, List.set_cons_succ]
      refine wpAnyH_done (by kernel_rfl) ?_ _
      go_wp2_with fail
      rw [Exit.noGoto_ret]
      exact bodyPost_ret (v := .tuple #[.agg #[.int .i64 0, .int .i64 0], .bool false]) (by simp [results, Try.results23, go_sem, y0, y1]) rfl ⟨rfl, oV.trans ((((Only.refl [w.heap.size] V).setCell (p := ⟨w.heap.size, 0, none⟩) (.inl (by simp)) _).setCell (p := ⟨w.heap.size, 1, none⟩) (.inl (by simp)) _).drew) (by simp)⟩
set_option maxHeartbeats 2000000 in
theorem peek_low (s : Option Addr) (t : Int) (p W k : Nat) (hp : p < 4294967296) (hW : W < 4294967296) (w : World) (hP : ∀ V, Only [] w V → Calls Try.prog 13 #[.pointer s, .int .i64 t] V fun e w' => e = .returned (.int .u32 (p : Nat)) ∧ w' = V)
    (h1 : 1 ≤ k) (h2 : k < 16) (hk : (p &&& W).testBit k = true) (hn : ∀ m, 1 ≤ m → m < k → (p &&& W).testBit m = false) :
    Calls Try.prog 23 #[.pointer s, .int .i64 t, .int .u32 W] w fun e w' => e = .returned (.tuple #[.agg #[.int .i64 k, .int .i64 0], .bool true]) ∧ Only [] w w' := by
  have P := hide (hP _ ((Only.refl [] w).alloc (.cells #[.int .i64 0, .int .i64 0] 36)))
  have z1 := u32_and_nat p W hp hW
  have hst2 : p &&& W < 4294967296 := Nat.lt_of_le_of_lt Nat.and_le_left hp
  obtain ⟨st, hst⟩ : ∃ st, p &&& W = st := ⟨_, rfl⟩
  rw [hst] at z1 hn hst2 hk
  have HN := hide hn
  have HK := hide hk
  clear hP hst hn hk
  go_enter Try.func23, Try.ntmps23
  go_wp2_with fail
  go_step3
  go_wp2_with (go_at_call 13; refine P.out.mono ?_; rintro e w' ⟨rfl, hw⟩; obtain rfl := hw.symm; clear hw)
  go_step3
  go_wp2_with fail
  go_loopw [10] (fun vn wr => ∃ k' : Nat, 1 ≤ k' ∧ k' ≤ k ∧ vn = .int .i64 k' ∧ (w.alloc (.cells #[.int .i64 0, .int .i64 0] 36)).alloc (.cells #[.int .i64 0, .int .i64 0] 36) = wr) (fun vn _ => 32 - (intOf vn).toNat)
  case atStart => exact ⟨1, by omega, by omega, rfl, rfl⟩
  case round =>
    obtain ⟨k', k1, k2, rfl, hw⟩ := hrel
    obtain rfl := hw
    by_cases hlt : k' < k
    · have hb := HN.out k' k1 hlt
      have z2 := bit_at st k' hst2
      rw [hb, if_neg (by decide)] at z2
      have i0 : (k' : Int) < 32 := by omega
      have i1 : (0 : Int) ≤ (k' : Int) := by omega
      clear hb
      go_wp2_with fail
      go_roundw
      case rel => exact ⟨k' + 1, by omega, by omega, by go_num, trivial⟩
      case measure => simp [intOf]; omega
    · obtain rfl : k' = k := by omega
      have z2 := bit_at st k' hst2
      rw [HK.out, if_pos rfl] at z2
      have i0 : (k' : Int) < 32 := by omega
      have i1 : (0 : Int) ≤ (k' : Int) := by omega
      have i3 : (0 : Int) < (k' : Int) := by omega
      have i4 : 0 < k' := by omega
      have d3 : decide (16 ≤ (k' : Int)) = false := decide_eq_false (by omega)
      go_wp2_with fail
      obtain ⟨V, hV⟩ : ∃ V, (w.alloc (.cells #[.int .i64 0, .int .i64 0] 36)).alloc (.cells #[.int .i64 (k' : Int), .int .i64 0] 36) = V := ⟨_, rfl⟩
      have b0 := (Blk.new w 36 #[.int .i64 0, .int .i64 0]).alloc (.cells #[.int .i64 (k' : Int), .int .i64 0] 36)
      have b1 := Blk.new (w.alloc (.cells #[.int .i64 0, .int .i64 0] 36)) 36 #[.int .i64 (k' : Int), .int .i64 0]
      rw [World.size_alloc] at b1
      have oV : Only [] w ((w.alloc (.cells #[.int .i64 0, .int .i64 0] 36)).alloc (.cells #[.int .i64 (k' : Int), .int .i64 0] 36)) := ((Only.refl [] w).alloc _).alloc _
      rw [hV] at b0 b1 oV ⊢
      clear hV
      have X := hide (fun U (o : Only [w.heap.size] V U) => show U.cell? ⟨w.heap.size + 1, 0, none⟩ = some (.int .i64 (k' : Int)) ∧ U.cell? ⟨w.heap.size + 1, 1, none⟩ = some (.int .i64 0) from ⟨((b1.only o (by simp)).cell 0).trans rfl, ((b1.only o (by simp)).cell 1).trans rfl⟩)
      have y0 := (b0.cell 0).trans (rfl : (#[Value.int .i64 0, .int .i64 0])[0]? = _)
      have y1 := (b0.cell 1).trans (rfl : (#[Value.int .i64 0, .int .i64 0])[1]? = _)
      have y2 := b0.frozen 0
      have y3 := b0.frozen 1
      clear b1
      refine wp_region_held_drew (S := (fun U => Only [w.heap.size] V U)) (by kernel_rfl) ((Only.refl [w.heap.size] V).drew) (fun hHeld => ?_)
      refine wpAnyH_take (i := 0) (oi := ⟨some 40, _, _, _, _, _⟩) (v := ?vb1) rfl (by kernel_rfl) (by kernel_rfl) (by kernel_rfl) (fun _ _ _ h => h) (Or.inl ⟨by rfl, ?hyb1⟩) (by assumption) ?restb1
      case hyb1 => (intro V hSw; (try dsimp only at hSw); obtain ⟨z, z'⟩ := X.out V hSw; go_simp; first | done | (with_reducible rfl))
      try simp only [Act.put, List.setIfInBounds_toArray, List.set_cons_zero, List.set_cons_succ]
      refine wpAnyH_take (i := 1) (oi := ⟨some 41, _, _, _, _, _⟩) (v := ?vb2) rfl (by kernel_rfl) (by kernel_rfl) (by kernel_rfl) (fun _ _ _ h => h) (Or.inl ⟨by rfl, ?hyb2⟩) (by assumption) ?restb2
      case hyb2 => (intro V hSw; (try dsimp only at hSw); go_simp; first | done | (with_reducible rfl))
      try simp only [Act.put, List.setIfInBounds_toArray, List.set_cons_zero, List.set_cons_succ]
      refine wpAnyH_take (i := 2) (oi := ⟨some 42, _, _, _, _, _⟩) (v := ?vb3) rfl (by kernel_rfl) (by kernel_rfl) (by kernel_rfl) (fun _ _ _ h => h) (Or.inl ⟨by rfl, ?hyb3⟩) (by assumption) ?restb3
      case hyb3 => (intro V hSw; (try dsimp only at hSw); obtain ⟨z, z'⟩ := X.out V hSw; go_simp; first | done | (with_reducible rfl))
      try simp only [Act.put, List.setIfInBounds_toArray, List.set_cons_zero, List.set_cons_succ]
      refine wpAnyH_take (i := 3) (oi := ⟨some 43, _, _, _, _, _⟩) (v := ?vb4) rfl (by kernel_rfl) (by kernel_rfl) (by kernel_rfl) (fun _ _ _ h => h) (Or.inl ⟨by rfl, ?hyb4⟩) (by assumption) ?restb4
      case hyb4 => (intro V hSw; (try dsimp only at hSw); go_simp; first | done | (with_reducible rfl))
      try simp only [Act.put, List.setIfInBounds_toArray, List.set_cons_zero, List.set_cons_succ]
      refine wpAnyH_ready (rs := [4]) (by kernel_rfl) (by simp) ?_
      refine AllReadyH.cons (o := ⟨none, _, _, _, _, _⟩) rfl (fun K hK => ?_) (AllReadyH.nil)
      rw [if_pos (by rfl)]
      go_simp
      try dsimp only
      refine hK.out _ _ ((((Only.refl [w.heap.size] V).setCell (p := ⟨w.heap.size, 0, none⟩) (.inl (by simp)) _).setCell (p := ⟨w.heap.size, 1, none⟩) (.inl (by simp)) _).drew) (fun hHeld => ?_)
      clear hK K
      try simp only [Act.put, List.setIfInBounds_toArray, List.set_cons_zero, List.set_cons_succ]
      refine wpAnyH_take (i := 5) (oi := ⟨some 7, _, _, _, _, _⟩) (v := ?vb5) rfl (by kernel_rfl) (by kernel_rfl) (by kernel_rfl) (fun _ _ _ h => h) (Or.inl ⟨by rfl, ?hyb5⟩) (by assumption) ?restb5
      case hyb5 => (intro V hSw; (try dsimp only at hSw); go_simp; first | done | (with_reducible rfl))
      try simp only [Act.put, List.setIfInBounds_toArray, List.set_cons_zero, List.set_cons_succ]
      refine wpAnyH_done (by kernel_rfl) ?_ _
      go_wp2_with fail
      rw [Exit.noGoto_ret]
      exact bodyPost_ret (v := .tuple #[.agg #[.int .i64 (k' : Int), .int .i64 0], .bool true]) (by simp [results, Try.results23, go_sem, y0, y1, i4]) rfl ⟨rfl, oV.trans ((((Only.refl [w.heap.size] V).setCell (p := ⟨w.heap.size, 0, none⟩) (.inl (by simp)) _).setCell (p := ⟨w.heap.size, 1, none⟩) (.inl (by simp)) _).drew) (by simp)⟩
set_option maxHeartbeats 2000000 in
theorem peek_high (g mb : Nat) (t : Nat) (p W k : Nat) (v : Int) (hp : p < 4294967296) (hW : W < 4294967296) (w : World) (hP : ∀ V, Only [] w V → Calls Try.prog 13 #[ptr g, .int .i64 t] V fun e w' => e = .returned (.int .u32 (p : Nat)) ∧ w' = V)
    (h1 : 1 ≤ k) (h16 : 16 ≤ k) (h2 : k < 32) (hk : (p &&& W).testBit k = true) (hn : ∀ m, 1 ≤ m → m < k → (p &&& W).testBit m = false)
    (c35 : w.cell? ⟨g, 35, none⟩ = some (.map (some mb))) (gq o n c : Nat) (hn0 : 0 < n) (hq : w.cell? ⟨gq, o, none⟩ = some (.int .i64 v))
    (hlk : ∀ V, Only [] w V → (Instr.lookup 59 (.map (some mb)) (.agg #[.int .i64 t, .int .i64 k]) false).run Try.prog V = .ok (.slice (some ⟨gq, o, none⟩) n c) V) :
    Calls Try.prog 23 #[ptr g, .int .i64 t, .int .u32 W] w fun e w' => e = .returned (.tuple #[.agg #[.int .i64 k, .int .i64 v], .bool true]) ∧ Only [] w w' := by
  have P := hide (hP _ ((Only.refl [] w).alloc (.cells #[.int .i64 0, .int .i64 0] 36)))
  have z1 := u32_and_nat p W hp hW
  have hst2 : p &&& W < 4294967296 := Nat.lt_of_le_of_lt Nat.and_le_left hp
  obtain ⟨st, hst⟩ : ∃ st, p &&& W = st := ⟨_, rfl⟩
  rw [hst] at z1 hn hst2 hk
  have HN := hide hn
  have HK := hide hk
  have LK := hide hlk
  clear hlk
  unfold ptr at P ⊢
  clear hP hst hn hk
  go_enter Try.func23, Try.ntmps23
  go_wp2_with fail
  go_step3
  go_wp2_with (go_at_call 13; refine P.out.mono ?_; rintro e w' ⟨rfl, hw⟩; obtain rfl := hw.symm; clear hw)
  go_step3
  go_wp2_with fail
  go_loopw [10] (fun vn wr => ∃ k' : Nat, 1 ≤ k' ∧ k' ≤ k ∧ vn = .int .i64 k' ∧ (w.alloc (.cells #[.int .i64 0, .int .i64 0] 36)).alloc (.cells #[.int .i64 0, .int .i64 0] 36) = wr) (fun vn _ => 32 - (intOf vn).toNat)
  case atStart => exact ⟨1, by omega, by omega, rfl, rfl⟩
  case round =>
    obtain ⟨k', k1, k2, rfl, hw⟩ := hrel
    obtain rfl := hw
    by_cases hlt : k' < k
    · have hb := HN.out k' k1 hlt
      have z2 := bit_at st k' hst2
      rw [hb, if_neg (by decide)] at z2
      have i0 : (k' : Int) < 32 := by omega
      have i1 : (0 : Int) ≤ (k' : Int) := by omega
      clear hb
      go_wp2_with fail
      go_roundw
      case rel => exact ⟨k' + 1, by omega, by omega, by go_num, trivial⟩
      case measure => simp [intOf]; omega
    · obtain rfl : k' = k := by omega
      have z2 := bit_at st k' hst2
      rw [HK.out, if_pos rfl] at z2
      have i0 : (k' : Int) < 32 := by omega
      have i1 : (0 : Int) ≤ (k' : Int) := by omega
      have i3 : (0 : Int) < (k' : Int) := by omega
      have i4 : 0 < k' := by omega
      have d3 : decide (16 ≤ (k' : Int)) = true := decide_eq_true (by omega)
      have oV1 : Only [] w ((w.alloc (.cells #[.int .i64 0, .int .i64 0] 36)).alloc (.cells #[.int .i64 (k' : Int), .int .i64 0] 36)) := ((Only.refl [] w).alloc _).alloc _
      have L1 := LK.out _ oV1
      have y35 := oV1.keep0 c35
      have yq := oV1.keep0 hq
      clear oV1
      have i2 : (0 : Int) < (n : Int) := by omega
      go_wp2_with fail
      obtain ⟨V, hV⟩ : ∃ V, (w.alloc (.cells #[.int .i64 0, .int .i64 0] 36)).alloc (.cells #[.int .i64 (k' : Int), .int .i64 v] 36) = V := ⟨_, rfl⟩
      have b0 := (Blk.new w 36 #[.int .i64 0, .int .i64 0]).alloc (.cells #[.int .i64 (k' : Int), .int .i64 v] 36)
      have b1 := Blk.new (w.alloc (.cells #[.int .i64 0, .int .i64 0] 36)) 36 #[.int .i64 (k' : Int), .int .i64 v]
      rw [World.size_alloc] at b1
      have oV : Only [] w ((w.alloc (.cells #[.int .i64 0, .int .i64 0] 36)).alloc (.cells #[.int .i64 (k' : Int), .int .i64 v] 36)) := ((Only.refl [] w).alloc _).alloc _
      rw [hV] at b0 b1 oV ⊢
      clear hV
      have X := hide (fun U (o : Only [w.heap.size] V U) => show U.cell? ⟨w.heap.size + 1, 0, none⟩ = some (.int .i64 (k' : Int)) ∧ U.cell? ⟨w.heap.size + 1, 1, none⟩ = some (.int .i64 v) from ⟨((b1.only o (by simp)).cell 0).trans rfl, ((b1.only o (by simp)).cell 1).trans rfl⟩)
      have y0 := (b0.cell 0).trans (rfl : (#[Value.int .i64 0, .int .i64 0])[0]? = _)
      have y1 := (b0.cell 1).trans (rfl : (#[Value.int .i64 0, .int .i64 0])[1]? = _)
      have y2 := b0.frozen 0
      have y3 := b0.frozen 1
      clear b1
      refine wp_region_held_drew (S := (fun U => Only [w.heap.size] V U)) (by kernel_rfl) ((Only.refl [w.heap.size] V).drew) (fun hHeld => ?_)
      refine wpAnyH_take (i := 0) (oi := ⟨some 40, _, _, _, _, _⟩) (v := ?vc1) rfl (by kernel_rfl) (by kernel_rfl) (by kernel_rfl) (fun _ _ _ h => h) (Or.inl ⟨by rfl, ?hyc1⟩) (by assumption) ?restc1
      case hyc1 => (intro V hSw; (try dsimp only at hSw); obtain ⟨z, z'⟩ := X.out V hSw; go_simp; first | done | (with_reducible rfl))
      try simp only [Act.put, List.setIfInBounds_toArray, List.set_cons_zero, List.set_cons_succ]
      refine wpAnyH_take (i := 1) (oi := ⟨some 41, _, _, _, _, _⟩) (v := ?vc2) rfl (by kernel_rfl) (by kernel_rfl) (by kernel_rfl) (fun _ _ _ h => h) (Or.inl ⟨by rfl, ?hyc2⟩) (by assumption) ?restc2
      case hyc2 => (intro V hSw; (try dsimp only at hSw); go_simp; first | done | (with_reducible rfl))
      try simp only [Act.put, List.setIfInBounds_toArray, List.set_cons_zero, List.set_cons_succ]
      refine wpAnyH_take (i := 2) (oi := ⟨some 42, _, _, _, _, _⟩) (v := ?vc3) rfl (by kernel_rfl) (by kernel_rfl) (by kernel_rfl) (fun _ _ _ h => h) (Or.inl ⟨by rfl, ?hyc3⟩) (by assumption) ?restc3
      case hyc3 => (intro V hSw; (try dsimp only at hSw); obtain ⟨z, z'⟩ := X.out V hSw; go_simp; first | done | (with_reducible rfl))
      try simp only [Act.put, List.setIfInBounds_toArray, List.set_cons_zero, List.set_cons_succ]
      refine wpAnyH_take (i := 3) (oi := ⟨some 43, _, _, _, _, _⟩) (v := ?vc4) rfl (by kernel_rfl) (by kernel_rfl) (by kernel_rfl) (fun _ _ _ h => h) (Or.inl ⟨by rfl, ?hyc4⟩) (by assumption) ?restc4
      case hyc4 => (intro V hSw; (try dsimp only at hSw); go_simp; first | done | (with_reducible rfl))
      try simp only [Act.put, List.setIfInBounds_toArray, List.set_cons_zero, List.set_cons_succ]
      refine wpAnyH_ready (rs := [4]) (by kernel_rfl) (by simp) ?_
      refine AllReadyH.cons (o := ⟨none, _, _, _, _, _⟩) rfl (fun K hK => ?_) (AllReadyH.nil)
      rw [if_pos (by rfl)]
      go_simp
      try dsimp only
      refine hK.out _ _ ((((Only.refl [w.heap.size] V).setCell (p := ⟨w.heap.size, 0, none⟩) (.inl (by simp)) _).setCell (p := ⟨w.heap.size, 1, none⟩) (.inl (by simp)) _).drew) (fun hHeld => ?_)
      clear hK K
      try simp only [Act.put, List.setIfInBounds_toArray, List.set_cons_zero, List.set_cons_succ]
      refine wpAnyH_take (i := 5) (oi := ⟨some 7, _, _, _, _, _⟩) (v := ?vc5) rfl (by kernel_rfl) (by kernel_rfl) (by kernel_rfl) (fun _ _ _ h => h) (Or.inl ⟨by rfl, ?hyc5⟩) (by assumption) ?restc5
      case hyc5 => (intro V hSw; (try dsimp only at hSw); go_simp; first | done | (with_reducible rfl))
      try simp only [Act.put, List.setIfInBounds_toArray, List.set_cons_zero, List.set_cons_succ]
      refine wpAnyH_done (by kernel_rfl) ?_ _
      go_wp2_with fail
      rw [Exit.noGoto_ret]
      exact bodyPost_ret (v := .tuple #[.agg #[.int .i64 (k' : Int), .int .i64 v], .bool true]) (by simp [results, Try.results23, go_sem, y0, y1, i4]) rfl ⟨rfl, oV.trans ((((Only.refl [w.heap.size] V).setCell (p := ⟨w.heap.size, 0, none⟩) (.inl (by simp)) _).setCell (p := ⟨w.heap.size, 1, none⟩) (.inl (by simp)) _).drew) (by simp)⟩

end Go.Proofs.Ytnmlcijkggfhmaa
