/- Walks over wire: Bytes, Signed, Flag, and the document's. No condition. -/
import Derived.Test.YtmaljajdmgkakaaGreatDoorWi1
import Derived.Maps.AppendAt
import Derived.Lib.Zigzag
namespace Go.Proofs.YtmaljajdmgkakaaGreatDoor
open Go.RowKit
set_option linter.unusedVariables false
set_option linter.all false
attribute [local go_sem ↓] app_hide

/-- append(s, b...) at a slice of one's own, b any bytes. -/
theorem run_app_src (B : Nat) (A0 : Option Addr) (n0 c0 : Nat) (bs : List UInt8) (A : Option Addr) (n c : Nat) (ds : List UInt8) (w : World) (hrow : w.ownsRow B 5 1 (.slice A0 n0 c0) n0 (U8s bs)) (hl : ds.length = n) (hs : Src w A ds)
    (hn : n0 + n ≤ 140737488355328) (hB : B ≤ w.heap.size) :
    ∃ (A1 : Option Addr) (c1 : Nat) (w2 : World), (AppH #[33, 33] 33 #[.slice A0 n0 c0, .slice A n c]).run Tryz.prog w = .ok (.slice A1 (n0 + n) c1) w2 ∧ w2.ownsRow B 5 1 (.slice A1 (n0 + n) c1) (n0 + n) (U8s (bs ++ ds)) ∧
      Only (blkOf A0) w w2 ∧ (∀ k ∈ blkOf A1, k ∈ blkOf A0 ∨ w.heap.size ≤ k) ∧ (A0 ≠ none → ∃ g, A1 = some ⟨g, 0, none⟩) := by
  obtain ⟨i0, hi, hz0, hz1, hz2⟩ := info_parts byte_info
  have hcap := own_cap hrow
  rcases A with _ | a
  · have h0 : ds = [] := by
      rcases Nat.eq_zero_or_pos ds.length with h0 | h0
      · exact List.eq_nil_of_length_eq_zero h0
      · obtain ⟨ad, he, _⟩ := hs h0
        cases he
    subst h0
    obtain rfl : n = 0 := by simpa using hl.symm
    refine ⟨A0, c0, w, ?_, by simpa using hrow, Only.refl _ _, fun k hk => .inl hk, ?_⟩
    · unfold AppH Builtin.append_
      have h1 := hcap.1
      have h2 := hcap.2
      rcases A0 with _ | a0
      · rcases hrow.2 with ⟨hv, _⟩ | ⟨g, cap, cur, hv, _⟩
        · simp only [Value.slice.injEq, true_and] at hv
          obtain ⟨rfl, rfl⟩ := hv
          simp [Builtin.lenOf, Builtin.firstCells]
        · simp at hv
      · simp [Builtin.lenOf, Builtin.firstCells, h1, storeCells]
    · intro h
      rcases hrow.2 with ⟨hv, _⟩ | ⟨g, cap, cur, hv, _⟩
      · simp only [Value.slice.injEq] at hv
        exact absurd hv.1 h
      · simp only [Value.slice.injEq] at hv
        exact ⟨g, hv.1⟩
  · have hc : ∀ j u, (U8s ds)[j]? = some u → w.cell? (a.add j) = some u := by
      rcases Nat.eq_zero_or_pos ds.length with h0 | h0
      · intro j u hj
        rw [List.eq_nil_of_length_eq_zero h0] at hj
        simp [U8s] at hj
      · obtain ⟨ad', he, hc⟩ := hs h0
        cases he
        exact hc
    obtain ⟨v', w', hrun, h2, h3, h4, h5⟩ := run_append_own_at (P := Tryz.prog) w B 33 33 5 i0 (.int .u8 0) 1 1 Tryz.underlying33 hi hz0 hz1 hz2 rfl (by omega) (.slice A0 n0 c0) n0 (U8s bs) hrow a n c (U8s ds) (by rw [length_U8s]; omega) hc (u8s_one ds) (by unfold maxLen; omega) (by omega) hB
    rw [u8s_append] at h2
    obtain ⟨A1, c1, rfl⟩ : ∃ A1 c1, v' = .slice A1 (n0 + n) c1 := by
      rcases h2.2 with ⟨hv, hn⟩ | ⟨g, cap, cur, hv, _⟩
      · rw [hn]
        exact ⟨none, 0, hv⟩
      · exact ⟨_, _, hv⟩
    refine ⟨A1, c1, w', hrun, h2, (Only.refl _ w).grown h3 (fun k hk => .inl ?_), ?_, ?_⟩
    · rcases A0 with _ | a0
      · simp [Value.ownBlock] at hk
      · simp only [Value.ownBlock, Option.some.injEq] at hk
        simp [blkOf, hk]
    · intro k hk
      rcases A1 with _ | a1
      · simp [blkOf] at hk
      · simp only [blkOf, List.mem_singleton] at hk
        subst hk
        simp only [Value.ownBlock] at h5
        rcases h5 with h5 | h5
        · rcases A0 with _ | a0
          · simp at h5
          · simp only [Option.some.injEq] at h5
            exact .inl (by simp [blkOf, h5])
        · simp only [Option.some.injEq] at h5
          exact .inr (by omega)
    · intro h
      rcases h2.2 with ⟨hv, _⟩ | ⟨g, cap, cur, hv, _⟩
      · have := h4.1 (by simpa using hv)
        simp only [Value.slice.injEq] at this
        exact absurd this.1.1 h
      · simp only [Value.slice.injEq] at hv
        exact ⟨g, hv.1⟩

theorem zig_xor (n : Int) (h0 : -9223372036854775808 ≤ n) (h1 : n ≤ 9223372036854775807) : bits .xor .u64 (IntKind.u64.wrap (IntKind.u64.wrap n * 2)) (IntKind.u64.wrap (n / 9223372036854775808)) = ((zig n : Nat) : Int) := by
  simp only [IntKind.wrap_u64]
  by_cases hn : n < 0
  · have e1 : (n % 18446744073709551616 * 2) % 18446744073709551616 = (((2 * n + 18446744073709551616).toNat : Nat) : Int) := by omega
    have e2 : n / 9223372036854775808 % 18446744073709551616 = (((18446744073709551615 : Nat)) : Int) := by omega
    rw [e1, e2, u64_xor_nat _ _ (by omega) (by omega), Nat.xor_comm, Lib.xor_ones64 _ (by omega)]
    unfold zig
    rw [if_pos hn]
    omega
  · have e1 : (n % 18446744073709551616 * 2) % 18446744073709551616 = (((2 * n).toNat : Nat) : Int) := by omega
    have e2 : n / 9223372036854775808 % 18446744073709551616 = ((0 : Nat) : Int) := by omega
    rw [e1, e2, u64_xor_nat _ _ (by omega) (by omega), Nat.xor_zero]
    unfold zig
    rw [if_neg hn]
theorem signed_any (n : Int) (h0 : -9223372036854775808 ≤ n) (h1 : n ≤ 9223372036854775807) (w : World) : Calls Tryz.prog 50 #[.int .i64 n] w (Fresh w (numF (zig n))) := by
  have hz := zig_lt n h0 h1
  go_enter Tryz.func50, Tryz.ntmps50
  go_wp2_with fail
  rw [zig_xor n h0 h1]
  refine (number_any _ hz w).mono ?_
  rintro e w1 ⟨o1, g, c1, rfl, hrow⟩
  go_wp2_with fail
  go_ret
  exact ⟨o1, g, c1, rfl, hrow⟩
theorem folded_any (n : Int) (h0 : -9223372036854775808 ≤ n) (h1 : n ≤ 9223372036854775807) (w : World) : Calls Tryz.prog 85 #[.int .i64 n] w fun e w' => e = .returned (.int .u64 (zig n)) ∧ w = w' := by
  by_cases hn : n < 0
  · go_enter Tryz.func85, Tryz.ntmps85
    go_wp2_with fail
    go_ret
    exact ⟨by rw [show ((zig n : Nat) : Int) = 2 * -(n + 1) + 1 from by unfold zig; rw [if_pos hn]; omega]; rfl, rfl⟩
  · go_enter Tryz.func85, Tryz.ntmps85
    go_wp2_with fail
    go_ret
    exact ⟨by rw [show ((zig n : Nat) : Int) = 2 * n from by unfold zig; rw [if_neg (by omega)]; omega]; rfl, rfl⟩
theorem rsigned_any (n : Int) (h0 : -9223372036854775808 ≤ n) (h1 : n ≤ 9223372036854775807) (w : World) : Calls Tryz.prog 54 #[.int .i64 n] w (Fresh w (numF (zig n))) := by
  have hz := zig_lt n h0 h1
  go_enter Tryz.func54, Tryz.ntmps54
  go_wp2_with (go_at_call 85; refine (folded_any n h0 h1 w).mono ?_; rintro e w' ⟨rfl, rfl⟩)
  refine (rnumber_any _ hz w).mono ?_
  rintro e w1 ⟨o1, g, c1, rfl, hrow⟩
  go_wp2_with fail
  go_ret
  exact ⟨o1, g, c1, rfl, hrow⟩
end Go.Proofs.YtmaljajdmgkakaaGreatDoor
