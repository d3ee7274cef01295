/- ArenaSteps: the walk. -/
import Derived.Test.YtdlmgijbejkgaaaAr13
namespace Go.Proofs.Ytdlmgijbejkgaaa
open Go.RowKit
set_option linter.unusedVariables false
set_option linter.all false
set_option maxRecDepth 100000

set_option maxHeartbeats 2000000 in
theorem steps_any (sz : Int) (A0 : Option Addr) (n c0 : Nat) (w : World) (h0 : -9223372036854775808 ≤ sz) (h1 : sz ≤ 9223372036854775807) (hA : Script w.heap.size w A0 n) :
    Calls Try.prog 5 #[.int .i64 sz, .slice A0 n c0] w fun e w' => e = .returned (.bool true) ∧ Only [] w w' := by
  have HA := hide hA
  clear hA
  by_cases hbad : sz < 256 ∨ 65536 < sz ∨ sz % 8 ≠ 0
  · have H := hide hbad
    clear hbad
    go_enter Try.func5, Try.ntmps5
    go_wp2_with (first
      | (go_at_call 8; refine (new_bad _ _ H.out h0 h1).mono ?_; rintro e w' ⟨rfl, rfl⟩)
      | (go_at_call 10; refine (rnew_bad _ _ H.out h0 h1).mono ?_; rintro e w' ⟨rfl, rfl⟩)
      | (go_at_call 9; refine (num_any _ _).mono ?_; rintro e w' ⟨rfl, rfl⟩)
      | (go_at_call 7; refine (known_any _).mono ?_; rintro e wa ⟨rfl, oa⟩))
    go_ret
    exact ⟨rfl, oa⟩
  · obtain ⟨m, rfl⟩ : ∃ m : Nat, sz = m := ⟨sz.toNat, by omega⟩
    have b0 : 256 ≤ m := by omega
    have b1 : m ≤ 65536 := by omega
    have b8 : m % 8 = 0 := by omega
    clear hbad h0 h1
    go_enter Try.func5, Try.ntmps5
    go_wp2_with fail
    refine (new_good m w b0 b1 b8).mono ?_
    rintro e w1 ⟨rfl, o1, hA1⟩
    go_wp2_with fail
    refine (rnew_good m w1 b0 b1 b8).mono ?_
    rintro e w2 ⟨rfl, o2, hR2⟩
    have hP := Pr.new b0 o1 hA1 o2 hR2
    have oo := o1.trans0 o2
    generalize w.heap.size + 1 = g at hP ⊢
    generalize w1.heap.size + 1 = rg at hP ⊢
    generalize w1.heap.size = rgb at hP
    clear hA1 hR2 o1 o2
    go_wp2_with fail
    refine (much_any A0 n c0 _ _ (HA.out.only oo (by simp))).mono ?_
    rintro e w3 ⟨⟨mb, rfl⟩, o3⟩
    have hP3 := hP.only0 o3
    have oo3 := oo.trans0 o3
    clear hP oo o3
    cases mb with
    | true =>
      go_wp2_with (go_at_call 7; refine (known_any _).mono ?_; rintro e wa ⟨rfl, oa⟩)
      go_ret
      exact ⟨rfl, oo3.trans0 oa⟩
    | false =>
      go_wp2_with (first
        | (go_at_call 9; refine (num_any _ _).mono ?_; rintro e w' ⟨rfl, rfl⟩)
        | (go_at_call 19; refine (stands_any hP3).mono ?_; rintro e w4 ⟨rfl, o4⟩))
      have hP4 := hP3.only0 o4
      have oo4 := oo3.trans0 o4
      clear hP3 oo3 o4
      go_loopw [5, 7, 8] (fun va vr i wr => ∃ (k g gb cap rg rgb rcap : Nat) (bs : List UInt8) (c : Int), va = .pointer (some ⟨g, 0, none⟩) ∧ vr = .pointer (some ⟨rg, 0, none⟩) ∧ i = .int .i64 k ∧ k ≤ n ∧ k ≤ 200 ∧ c ≤ k ∧ Only [] w wr ∧ Pr wr w.heap.size g gb cap rg rgb rcap bs c) (fun _ _ i _ => 200 - (intOf i).toNat)
      case atStart => exact ⟨0, _, _, _, _, _, _, _, _, rfl, rfl, rfl, by omega, by omega, by omega, oo4, hP4⟩
      case round =>
        obtain ⟨k, g, gb, cap, rg, rgb, rcap, bs, c, rfl, rfl, rfl, hkn, hk2, hc, hO, hP⟩ := hrel
        by_cases hlt : k < n
        · have i1 : (k : Int) < (n : Int) := by omega
          have i0 : (0 : Int) ≤ (k : Int) := by omega
          by_cases h2 : k < 200
          · have i2 : (k : Int) < 200 := by omega
            obtain ⟨a, s, rfl, hlo, hok, c0, c1, c2, c3, c4⟩ := (HA.out.only hO (by simp)) k hlt
            have hd := hide (do_any s hok hP (by omega))
            go_wp2_with fail
            refine hd.out.mono ?_
            clear hd
            rintro e w5 ⟨o5, g', gb', cap', rcap', bs', c', rfl, hP', hc', _⟩
            have hO5 : Only [] w w5 := hO.trans o5 (fun x hx => .inr (by
              have := hP.g1
              have := hP.g2
              have := hP.g3
              have := hP.g4
              simp at hx
              omega))
            go_wp2_with fail
            go_roundw
            case rel => exact ⟨k + 1, _, _, _, _, _, _, _, _, rfl, rfl, by go_num, by omega, by omega, by omega, hO5, hP'⟩
            case measure => simp [intOf]; omega
          · have d2 : decide ((k : Int) < 200) = false := by simp; omega
            go_wp2_with (first
              | (go_at_call 19; refine (stands_any hP).mono ?_; rintro e w4 ⟨rfl, o4⟩)
              | (go_at_call 7; refine (known_any _).mono ?_; rintro e wa ⟨rfl, oa⟩))
            go_ret
            exact ⟨rfl, (hO.trans0 o4).trans0 oa⟩
        · have d1 : decide ((k : Int) < (n : Int)) = false := by simp; omega
          go_wp2_with (first
            | (go_at_call 19; refine (stands_any hP).mono ?_; rintro e w4 ⟨rfl, o4⟩)
            | (go_at_call 7; refine (known_any _).mono ?_; rintro e wa ⟨rfl, oa⟩))
          go_ret
          exact ⟨rfl, (hO.trans0 o4).trans0 oa⟩
end Go.Proofs.Ytdlmgijbejkgaaa
