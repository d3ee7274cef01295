/- Spans: the document's Text, walked. Condition: a span that may be. -/
import Derived.Test.YtcocjjapmmpgaaaDoorMore
import Derived.Test.YtcocjjapmmpgaaaDoorSp5
import Derived.Maps.AppendAt
import Derived.LoopTactic
namespace Go.Proofs.YtcocjjapmmpgaaaDoor
open Go.RowKit
set_option linter.unusedVariables false
set_option linter.all false
set_option maxRecDepth 100000
attribute [local go_sem ↓] app_hide

theorem byte_info : (Tryd.prog.info? 5).map (fun i => (i.zero, i.size, i.bytes)) = some (some (.int .u8 0), 1, 1) := by kernel_rfl
/-- append(s, b...) at a slice of one's own, b any bytes. -/
theorem run_app_src (B : Nat) (A0 : Option Addr) (n0 c0 : Nat) (bs : List UInt8) (A : Option Addr) (n c : Nat) (ds : List UInt8) (w : World) (hrow : w.ownsRow B 5 1 (.slice A0 n0 c0) n0 (U8s bs)) (hl : ds.length = n) (hs : Src w A ds)
    (hn : n0 + n ≤ 140737488355328) (hB : B ≤ w.heap.size) :
    ∃ (A1 : Option Addr) (c1 : Nat) (w2 : World), (AppH #[62, 62] 62 #[.slice A0 n0 c0, .slice A n c]).run Tryd.prog w = .ok (.slice A1 (n0 + n) c1) w2 ∧ w2.ownsRow B 5 1 (.slice A1 (n0 + n) c1) (n0 + n) (U8s (bs ++ ds)) ∧
      Only (blkOf A0) w w2 ∧ (∀ k ∈ blkOf A1, k ∈ blkOf A0 ∨ w.heap.size ≤ k) ∧ (A0 ≠ none → ∃ g, A1 = some ⟨g, 0, none⟩) := by
  obtain ⟨i0, hi, hz0, hz1, hz2⟩ := info_parts byte_info
  have hcap := own_cap hrow
  rcases A with _ | a
  · have h0 : ds = [] := by
      rcases Nat.eq_zero_or_pos ds.length with h0 | h0
      · exact List.eq_nil_of_length_eq_zero h0
      · obtain ⟨ad, he, _⟩ := hs h0
        cases he
    subst h0
    obtain rfl : n = 0 := by simpa using hl.symm
    refine ⟨A0, c0, w, ?_, by simpa using hrow, Only.refl _ _, fun k hk => .inl hk, ?_⟩
    · unfold AppH Builtin.append_
      have h1 := hcap.1
      have h2 := hcap.2
      rcases A0 with _ | a0
      · rcases hrow.2 with ⟨hv, _⟩ | ⟨g, cap, cur, hv, _⟩
        · simp only [Value.slice.injEq, true_and] at hv
          obtain ⟨rfl, rfl⟩ := hv
          simp [Builtin.lenOf, Builtin.firstCells]
        · simp at hv
      · simp [Builtin.lenOf, Builtin.firstCells, h1, storeCells]
    · intro h
      rcases hrow.2 with ⟨hv, _⟩ | ⟨g, cap, cur, hv, _⟩
      · simp only [Value.slice.injEq] at hv
        exact absurd hv.1 h
      · simp only [Value.slice.injEq] at hv
        exact ⟨g, hv.1⟩
  · have hc : ∀ j u, (U8s ds)[j]? = some u → w.cell? (a.add j) = some u := by
      rcases Nat.eq_zero_or_pos ds.length with h0 | h0
      · intro j u hj
        rw [List.eq_nil_of_length_eq_zero h0] at hj
        simp [U8s] at hj
      · obtain ⟨ad', he, hc⟩ := hs h0
        cases he
        exact hc
    obtain ⟨v', w', hrun, h2, h3, h4, h5⟩ := run_append_own_at (P := Tryd.prog) w B 62 62 5 i0 (.int .u8 0) 1 1 Tryd.underlying62 hi hz0 hz1 hz2 rfl (by omega) (.slice A0 n0 c0) n0 (U8s bs) hrow a n c (U8s ds) (by rw [length_U8s]; omega) hc (U8s_one ds) (by unfold maxLen; omega) (by omega) hB
    rw [← U8s_append] at h2
    obtain ⟨A1, c1, rfl⟩ : ∃ A1 c1, v' = .slice A1 (n0 + n) c1 := by
      rcases h2.2 with ⟨hv, hn⟩ | ⟨g, cap, cur, hv, _⟩
      · rw [hn]
        exact ⟨none, 0, hv⟩
      · exact ⟨_, _, hv⟩
    refine ⟨A1, c1, w', hrun, h2, (Only.refl _ w).grown h3 (fun k hk => .inl ?_), ?_, ?_⟩
    · rcases A0 with _ | a0
      · simp [Value.ownBlock] at hk
      · simp only [Value.ownBlock, Option.some.injEq] at hk
        simp [blkOf, hk]
    · intro k hk
      rcases A1 with _ | a1
      · simp [blkOf] at hk
      · simp only [blkOf, List.mem_singleton] at hk
        subst hk
        simp only [Value.ownBlock] at h5
        rcases h5 with h5 | h5
        · rcases A0 with _ | a0
          · simp at h5
          · simp only [Option.some.injEq] at h5
            exact .inl (by simp [blkOf, h5])
        · simp only [Option.some.injEq] at h5
          exact .inr (by omega)
    · intro h
      rcases h2.2 with ⟨hv, _⟩ | ⟨g, cap, cur, hv, _⟩
      · have := h4.1 (by simpa using hv)
        simp only [Value.slice.injEq] at this
        exact absurd this.1.1 h
      · simp only [Value.slice.injEq] at hv
        exact ⟨g, hv.1⟩


/-- A row of one byte, new. -/
theorem own_one (W : World) (c : UInt8) : (W.alloc (.cells #[U8 c] 5)).ownsRow W.heap.size 5 1 (.slice (some ⟨W.heap.size, 0, none⟩) 1 1) 1 (U8s [c]) := by
  have := own_of_block (cur := [U8 c]) (n := 1) (cap := 1) (base := W.heap.size) (Blk.new W 5 #[U8 c]) rfl (by omega) (by unfold maxLen; omega) (Nat.le_refl _)
  simpa [U8s] using this
def sLen : Value → Nat
  | .slice _ n _ => n
  | _ => 0
def preN (m : Nat) : List UInt8 := if m = 0 then [] else Lib.decDigits m
theorem dig_step {s m : Nat} {L : List UInt8} (h1 : L = [] → m = s) (h2 : L ≠ [] → Lib.decDigits s = preN m ++ L) (h3 : 0 < m ∨ L = []) : Lib.decDigits s = preN (m / 10) ++ UInt8.ofNat (48 + m % 10) :: L := by
  have key : Lib.decDigits m = preN (m / 10) ++ [UInt8.ofNat (48 + m % 10)] := by
    rw [Lib.decDigits]
    by_cases hm : m < 10
    · rw [dif_pos hm, show m / 10 = 0 by omega, show m % 10 = m by omega]; rfl
    · rw [dif_neg hm]; unfold preN; rw [if_neg (by omega)]
  by_cases hL : L = []
  · rw [hL, ← h1 hL, key]
  · rcases h3 with h3 | h3
    · rw [h2 hL]
      unfold preN at key ⊢
      rw [if_neg (by omega), key]
      simp
    · exact absurd h3 hL
theorem byte_val (x : Nat) (h : x ≤ 9) : U8 (UInt8.ofNat (48 + x)) = .int .u8 (48 + (x : Int)) := by
  unfold U8
  rw [UInt8.toNat_ofNat_of_lt' (by simp [UInt8.size]; omega)]
  simp

def dv (j : Nat) : Nat := if j < 9 then 10 ^ (8 - j) else 0
theorem step_frac (j n : Nat) (hj : j < 9) : 0 < dv j ∧ dv j ≤ 100000000 ∧ n % 10 ^ (9 - j) / dv j ≤ 9 ∧ Lib.dg (1000000000 + n) (8 - j) = UInt8.ofNat (48 + n % 10 ^ (9 - j) / dv j) ∧ n % 10 ^ (9 - j) % dv j = n % 10 ^ (9 - (j + 1)) ∧ dv j / 10 = dv (j + 1) := by
  have h : j = 0 ∨ j = 1 ∨ j = 2 ∨ j = 3 ∨ j = 4 ∨ j = 5 ∨ j = 6 ∨ j = 7 ∨ j = 8 := by omega
  rcases h with rfl | rfl | rfl | rfl | rfl | rfl | rfl | rfl | rfl <;> refine ⟨by decide, by decide, ?_, (show UInt8.ofNat _ = UInt8.ofNat _ from congrArg UInt8.ofNat ?_), ?_, by decide⟩ <;> first | (simp [dv]; omega) | (simp [dv]; done)
theorem frac_text (n : Nat) (hn : n < 1000000000) : (Lib.decDigits (1000000000 + n)).drop 1 = (List.range 9).map fun t => Lib.dg (1000000000 + n) (8 - t) := by
  rw [Lib.decDigits_eq, Lib.nDigits_unique 9 _ (by omega) (by omega), List.range_succ_eq_map]
  simp only [List.map_cons, List.map_map, List.drop_succ_cons, List.drop_zero]
  refine List.map_congr_left fun t ht => ?_
  have := List.mem_range.1 ht
  simp only [Function.comp]
  congr 1
  omega

set_option maxHeartbeats 4000000 in
theorem rtext_any (s n : Int) (h : mayN s n = true) (w : World) : Calls Tryd.prog 28 #[.agg #[.int .i64 s, .int .i64 n]] w fun e w' => e = .returned (.string ⟨(textN s n).toArray⟩) ∧ Only [] w w' := by
  have b := may_iff.1 h
  obtain ⟨sN, rfl⟩ : ∃ m : Nat, s = m := ⟨s.toNat, by omega⟩
  obtain ⟨nN, rfl⟩ : ∃ m : Nat, n = m := ⟨n.toNat, by omega⟩
  clear h
  have LA := Blk.new w 23 #[.int .i64 sN, .int .i64 nN]
  have OO := (Only.refl [] w).alloc (.cells #[.int .i64 sN, .int .i64 nN] 23)
  go_enter Tryd.func28, Tryd.ntmps28
  go_wp2_with fail
  go_loopw [3, 4] (fun v i wr => ∃ (A : Option Addr) (c m : Nat) (L : List UInt8), v = .slice A L.length c ∧ i = .int .i64 m ∧ m ≤ 2147483647 ∧ L.length ≤ 10 ∧ m * 10 ^ L.length ≤ 2147483647 ∧ (L = [] → m = sN) ∧ (L ≠ [] → Lib.decDigits sN = preN m ++ L) ∧ wr.ownsRow (w.heap.size + 1) 5 1 v L.length (U8s L) ∧ Blk wr w.heap.size 23 #[.int .i64 sN, .int .i64 nN] ∧ Only [] w wr)
    (fun v i _ => (intOf i).toNat + (if sLen v = 0 then 1 else 0))
  case atStart => exact ⟨none, 0, sN, [], rfl, rfl, by omega, by simp, by simp; omega, fun _ => rfl, fun h => absurd rfl h, World.ownsRow_nil .., LA, OO⟩
  case round =>
    clear LA OO
    obtain ⟨A, c, m, L, rfl, rfl, hm, hLl, hp, hL1, hL2, hrow, LA, OO⟩ := hrel
    have k0 : wr.cell? ⟨w.heap.size, 0, none⟩ = some (.int .i64 sN) := by simpa using LA.cell 0
    have k1 : wr.cell? ⟨w.heap.size, 1, none⟩ = some (.int .i64 nN) := by simpa using LA.cell 1
    by_cases hgo : 0 < m ∨ L = []
    · have hLn : L.length ≤ 9 := by
        rcases hgo with hg | hg
        · by_cases hq : L.length ≤ 9
          · exact hq
          · have hq' : L.length = 10 := by omega
            rw [hq'] at hp
            omega
        · rw [hg]; simp
      have hd := dig_step hL1 hL2 hgo
      obtain ⟨x, hx⟩ : ∃ x, m % 10 = x := ⟨_, rfl⟩
      have hx9 : x ≤ 9 := by omega
      have e1 : (m : Int).tmod 10 = (x : Int) := by rw [Int.tmod_eq_emod_of_nonneg (by omega)]; omega
      have e2 : (m : Int).tdiv 10 = ((m / 10 : Nat) : Int) := by rw [Int.tdiv_eq_ediv_of_nonneg (by omega)]; omega
      have v1 : IntKind.i64.wrap (48 + (x : Int)) = 48 + (x : Int) := IntWalk.i64_in _ (by omega)
      have v2 : IntKind.u8.wrap (48 + (x : Int)) = 48 + (x : Int) := by rw [IntKind.wrap_u8]; omega
      have v3 : IntKind.i64.wrap (x : Int) = (x : Int) := IntWalk.i64_in _ (by omega)
      have v4 : IntKind.i64.wrap ((m / 10 : Nat) : Int) = ((m / 10 : Nat) : Int) := IntWalk.i64_in _ (by omega)
      have hone := own_one wr (UInt8.ofNat (48 + x))
      rw [byte_val x hx9] at hone
      have hlt := LA.lt
      have hown : (wr.alloc (.cells #[.int .u8 (48 + (x : Int))] 5)).ownsRow (w.heap.size + 1) 5 1 (.slice A L.length c) L.length (U8s L) := own_only' hrow ((Only.refl [] wr).alloc _) (by simp)
      obtain ⟨A1, c1, w2, hrun, hrow2, o2, hk2, hA2⟩ := run_app_src wr.heap.size _ 1 1 [UInt8.ofNat (48 + x)] A L.length c L _ hone rfl (Src.own hown) (by omega) (by simp)
      have LA2 := (LA.alloc (.cells #[.int .u8 (48 + (x : Int))] 5)).only o2 (by simp [blkOf]; omega)
      have OO2 := (OO.alloc (.cells #[.int .u8 (48 + (x : Int))] 5)).trans o2 (fun y hy => .inr (by simp [blkOf] at hy; omega))
      have hO := hide hrow2
      have hD := hide hd
      clear hrow2 hd hone hown hL1 hL2
      rw [hx] at hD
      have hp2 : (m / 10) * 10 ^ (L.length + 1) ≤ 2147483647 := by
        refine Nat.le_trans ?_ hp
        rw [Nat.pow_succ, Nat.mul_comm (10 ^ L.length) 10, ← Nat.mul_assoc]
        exact Nat.mul_le_mul_right _ (Nat.div_mul_le_self m 10)
      by_cases hm0 : 0 < m
      · have gm : decide (0 < (m : Int)) = true := by simp [hm0]
        go_wp2_with fail
        go_roundw
        case rel => exact ⟨A1, c1, m / 10, UInt8.ofNat (48 + x) :: L, by simp [Nat.add_comm], rfl, by omega, by simp; omega, by simpa using hp2, fun h => by simp at h, fun _ => hD.out, by simpa [Nat.add_comm] using own_mono hO.out (by omega), LA2, OO2⟩
        case measure => simp [intOf, sLen]; omega
      · obtain rfl : m = 0 := by omega
        obtain rfl : L = [] := by rcases hgo with h | h; omega; exact h
        obtain rfl : x = 0 := by omega
        clear e1 e2 v1 v2 v3 v4 hgo hx
        have hrun' : (AppH #[62, 62] 62 #[.slice (some ⟨wr.heap.size, 0, none⟩) 1 1, .slice A 0 c]).run Tryd.prog (wr.alloc (.cells #[.int .u8 48] 5)) = .ok (.slice A1 1 c1) w2 := hrun
        clear hrun
        go_wp2_with fail
        go_roundw
        case rel => exact ⟨A1, c1, 0, [UInt8.ofNat (48 + 0)], by simp, by simp, by omega, by simp, by simp, fun h => by simp at h, fun _ => hD.out, by simpa using own_mono hO.out (by omega), LA2, OO2⟩
        case measure => simp [intOf, sLen]
    · have hm0 : m = 0 := by omega
      subst hm0
      have hLne : L ≠ [] := fun h => hgo (.inr h)
      have hd : Lib.decDigits sN = L := by have := hL2 hLne; simpa [preN] using this
      have hLp : 0 < L.length := List.length_pos_iff.2 hLne
      have hLz : ((L.length : Int) == 0) = false := by simp; exact hLne
      have hlt := LA.lt
      have hone := own_one wr 46
      have hown : (wr.alloc (.cells #[.int .u8 46] 5)).ownsRow (w.heap.size + 1) 5 1 (.slice A L.length c) L.length (U8s L) := own_only' hrow ((Only.refl [] wr).alloc _) (by simp)
      have hge := own_ge hown
      obtain ⟨A1, c1, w2, hrun0, hrow2, o2, hk2, hA2⟩ := run_app_src (w.heap.size + 1) A L.length c L (some ⟨wr.heap.size, 0, none⟩) 1 1 [46] _ hown rfl (Src.own hone) (by omega) (by simp; omega)
      have hrun : (AppH #[62, 62] 62 #[.slice A L.length c, .slice (some ⟨wr.heap.size, 0, none⟩) 1 1]).run Tryd.prog (wr.alloc (.cells #[.int .u8 46] 5)) = .ok (.slice A1 (L.length + 1) c1) w2 := hrun0
      have LA2 := (LA.alloc (.cells #[.int .u8 46] 5)).only o2 (fun hm => by have := (hge _ hm).1; omega)
      have OO2 := (OO.alloc (.cells #[.int .u8 46] 5)).trans o2 (fun y hy => .inr (by have := (hge y hy).1; omega))
      have hO := hide hrow2
      have hD := hide hd
      have j0 : w2.cell? ⟨w.heap.size, 0, none⟩ = some (.int .i64 sN) := by simpa using LA2.cell 0
      have j1 : w2.cell? ⟨w.heap.size, 1, none⟩ = some (.int .i64 nN) := by simpa using LA2.cell 1
      clear hrow2 hd hone hown hL1 hL2 hgo hrun0 hLne hp hm hk2 hA2 hge hrow
      go_wp2_with fail
      go_loopw [3, 5, 6] (fun v k d wy => ∃ (A : Option Addr) (c j : Nat) (M : List UInt8), v = .slice A M.length c ∧ j ≤ 9 ∧ d = .int .i64 (dv j : Nat) ∧ k = .int .i64 ((nN % 10 ^ (9 - j) : Nat) : Int) ∧ M = L ++ 46 :: ((List.range j).map fun t => Lib.dg (1000000000 + nN) (8 - t)) ∧ wy.ownsRow (w.heap.size + 1) 5 1 v M.length (U8s M) ∧ Only [] w wy) (fun _ _ d _ => (intOf d).toNat)
      case atStart => exact ⟨A1, c1, 0, L ++ [46], by simp, by omega, rfl, by rw [Nat.mod_eq_of_lt (by omega)], by simp, by simpa using hO.out, OO2⟩
      case round =>
        clear hO OO2 hrun
        obtain ⟨A2, c2, j, M, rfl, hj, rfl, rfl, hM, hrow, OO⟩ := hrel
        have hMl : M.length ≤ 40 := by rw [hM]; simp; omega
        by_cases hj9 : j < 9
        · obtain ⟨f1, f2, f3, f4, f5, f6⟩ := step_frac j nN hj9
          obtain ⟨P, hP⟩ : ∃ P, dv j = P := ⟨_, rfl⟩
          obtain ⟨K, hK⟩ : ∃ K, nN % 10 ^ (9 - j) = K := ⟨_, rfl⟩
          rw [hP] at f1 f2 f3 f4 f5 f6
          rw [hK] at f3 f4 f5
          obtain ⟨x, hx⟩ : ∃ x, K / P = x := ⟨_, rfl⟩
          rw [hx] at f3 f4
          rw [hP, hK]
          have hKb : K < 1000000000 := by rw [← hK]; exact Nat.lt_of_le_of_lt (Nat.mod_le _ _) (by omega)
          have gP : decide (0 < (P : Int)) = true := by simp [f1]
          have nz : ¬ (P : Int) = 0 := by omega
          have e1 : (K : Int).tdiv (P : Int) = (x : Int) := by rw [Int.tdiv_eq_ediv_of_nonneg (by omega), ← Int.natCast_ediv, hx]
          have e2 : (K : Int).tmod (P : Int) = ((nN % 10 ^ (9 - (j + 1)) : Nat) : Int) := by rw [Int.tmod_eq_emod_of_nonneg (by omega), ← Int.natCast_emod, f5]
          have e3 : (P : Int).tdiv 10 = (dv (j + 1) : Nat) := by rw [Int.tdiv_eq_ediv_of_nonneg (by omega), ← f6]; omega
          have hdv : dv (j + 1) ≤ 100000000 := by rw [← f6]; omega
          have hdl : dv (j + 1) < P := by rw [← f6]; omega
          obtain ⟨Q, hQ⟩ : ∃ Q, dv (j + 1) = Q := ⟨_, rfl⟩
          obtain ⟨R, hR⟩ : ∃ R, nN % 10 ^ (9 - (j + 1)) = R := ⟨_, rfl⟩
          have hRb : R < 1000000000 := by rw [← hR]; exact Nat.lt_of_le_of_lt (Nat.mod_le _ _) (by omega)
          rw [hR] at e2
          rw [hQ] at e3 hdv hdl
          have v1 : IntKind.i64.wrap (48 + (x : Int)) = 48 + (x : Int) := IntWalk.i64_in _ (by omega)
          have v2 : IntKind.u8.wrap (48 + (x : Int)) = 48 + (x : Int) := by rw [IntKind.wrap_u8]; omega
          have v3 : IntKind.i64.wrap (x : Int) = (x : Int) := IntWalk.i64_in _ (by omega)
          have v4 : IntKind.i64.wrap (R : Int) = (R : Int) := IntWalk.i64_in _ (by omega)
          have v5 : IntKind.i64.wrap (Q : Int) = (Q : Int) := IntWalk.i64_in _ (by omega)
          have hone := own_one wr (UInt8.ofNat (48 + x))
          rw [byte_val x f3] at hone
          have hown : (wr.alloc (.cells #[.int .u8 (48 + (x : Int))] 5)).ownsRow (w.heap.size + 1) 5 1 (.slice A2 M.length c2) M.length (U8s M) := own_only' hrow ((Only.refl [] wr).alloc _) (by simp)
          have hge := own_ge hown
          have hsz := OO.size
          obtain ⟨A3, c3, w4, hrun0, hrow3, o3, hk3, hA3⟩ := run_app_src (w.heap.size + 1) A2 M.length c2 M (some ⟨wr.heap.size, 0, none⟩) 1 1 [UInt8.ofNat (48 + x)] _ hown rfl (Src.own hone) (by omega) (by simp; omega)
          have hrun : (AppH #[62, 62] 62 #[.slice A2 M.length c2, .slice (some ⟨wr.heap.size, 0, none⟩) 1 1]).run Tryd.prog (wr.alloc (.cells #[.int .u8 (48 + (x : Int))] 5)) = .ok (.slice A3 (M.length + 1) c3) w4 := hrun0
          have OO3 := (OO.alloc (.cells #[.int .u8 (48 + (x : Int))] 5)).trans o3 (fun y hy => .inr (by have := (hge y hy).1; omega))
          have hO := hide hrow3
          have hMn : Hid (M ++ [UInt8.ofNat (48 + x)] = L ++ 46 :: ((List.range (j + 1)).map fun t => Lib.dg (1000000000 + nN) (8 - t))) := hide (by rw [hM, List.range_succ, List.map_append, ← f4]; simp)
          have hQ' := hide hQ
          have hR' := hide hR
          clear hrow3 hone hown hrun0 hM f4 f5 f6 hx hK hP hQ hR hge hk3 hA3 hrow
          go_wp2_with fail
          go_roundw
          case rel => exact ⟨A3, c3, j + 1, M ++ [UInt8.ofNat (48 + x)], by simp, by omega, by rw [hQ'.out], by rw [hR'.out], hMn.out, by simpa using hO.out, OO3⟩
          case measure => simp [intOf]; omega
        · obtain rfl : j = 9 := by omega
          have gP : decide (0 < ((dv 9 : Nat) : Int)) = false := by decide
          have hfin : M = textN sN nN := by
            rw [hM]
            unfold textN
            rw [itoa_nat (by omega), itoa_nat (by omega), show (1000000000 + (nN : Int)).toNat = 1000000000 + nN by omega, frac_text nN (by omega)]
            simp [hD.out]
          have hs := run_str (P := Tryd.prog) (w := wr) Tryd.underlying62 Tryd.underlying5 Tryd.underlying9 (a := A2) (ds := M) M.length c2 rfl (Src.own hrow)
          have HF := hide hfin
          clear hM hfin hrow
          go_wp2_with fail
          go_ret
          exact ⟨by rw [HF.out]; rfl, OO⟩
end Go.Proofs.YtcocjjapmmpgaaaDoor
