/- Spans: the document's Parse, walked. Condition: a text of at most 9000 bytes. -/
import Derived.Test.YtcocjjapmmpgaaaDoorSp15
import Derived.Test.YtcocjjapmmpgaaaDoorSp8
namespace Go.Proofs.YtcocjjapmmpgaaaDoor
open Go.RowKit
set_option linter.unusedVariables false
set_option linter.all false
set_option maxRecDepth 100000

/-- What a run of bytes says, as digits. -/
def val (l : List UInt8) : Int := l.foldl (fun a c => a * 10 + ((c.toNat : Int) - 48)) 0
theorem val_snoc (l : List UInt8) (c : UInt8) : val (l ++ [c]) = val l * 10 + ((c.toNat : Int) - 48) := by simp [val]
theorem val_rev : ∀ l : List UInt8, -(23 * (10 : Int) ^ l.length - 23) ≤ val l.reverse ∧ val l.reverse ≤ 23 * (10 : Int) ^ l.length - 23
  | [] => by simp [val]
  | c :: l => by
    have ih := val_rev l
    rw [List.reverse_cons, val_snoc, List.length_cons, Int.pow_succ]
    have := c.toNat_lt
    omega
theorem val_bound (l : List UInt8) (h : l.length ≤ 10) : -230000000000 ≤ val l ∧ val l ≤ 230000000000 := by
  have := val_rev l.reverse
  rw [List.reverse_reverse, List.length_reverse] at this
  have hp : (10 : Int) ^ l.length ≤ 10000000000 := by
    have h0 : (10 : Nat) ^ l.length ≤ 10 ^ 10 := Nat.pow_le_pow_right (by omega) h
    have h1 : ((10 ^ l.length : Nat) : Int) = (10 : Int) ^ l.length := by push_cast; rfl
    omega
  omega
def rparseN (t : List UInt8) : Int × Int × Int := if t.length < 11 ∨ 20 < t.length then (0, 0, 4) else finN t (val (t.take (t.length - 10))) (val (t.drop (t.length - 10 + 1)))
theorem take_snoc {t : List UInt8} {j : Nat} {c : UInt8} (h : t[j]? = some c) : t.take (j + 1) = t.take j ++ [c] := by
  rw [List.take_add_one, h]; rfl
theorem drop_take_snoc {t : List UInt8} {j m : Nat} {c : UInt8} (h : t[j]? = some c) (hm : m ≤ j) : (t.take (j + 1)).drop m = (t.take j).drop m ++ [c] := by
  have hl : j < t.length := (List.getElem?_eq_some_iff.1 h).1
  rw [take_snoc h, List.drop_append_of_le_length (by simp; omega)]

theorem idx_str (t : ByteArray) (j : Nat) (c : UInt8) (h : t.data.toList[j]? = some c) (W : World) : (Instr.index 9 (.string t) (.int .i64 j)).run Tryd.prog W = .ok (.int .u8 (c.toNat : Int)) W := by
  have hl : j < t.size := (List.getElem?_eq_some_iff.1 h).1
  have hc : t[j] = c := (List.getElem?_eq_some_iff.1 h).2
  refine (run_index_string W 9 t .i64 (j : Int) Tryd.underlying9).trans ?_
  rw [dif_pos ⟨by omega, by omega⟩]
  simp [hc]

set_option maxHeartbeats 4000000 in
theorem rparse_any (t : ByteArray) (hsz : t.size ≤ 9000) (w : World) : Calls Tryd.prog 26 #[.string t] w fun e w' => spE (rparseN t.data.toList) e ∧ Only [] w w' := by
  have hT : t.data.toList.length = t.size := rfl
  have wL : IntKind.i64.wrap ((t.size : Int) - 10) = (t.size : Int) - 10 := IntWalk.i64_in _ (by omega)
  have LR := (Blk.new w 23 #[.int .i64 0, .int .i64 0]).alloc (.cells #[.int .i64 0, .int .i64 0] 23)
  have LS := Blk.new (w.alloc (.cells #[.int .i64 0, .int .i64 0] 23)) 23 #[.int .i64 0, .int .i64 0]
  rw [World.size_alloc] at LS
  have OO := ((Only.refl [] w).alloc (.cells #[.int .i64 0, .int .i64 0] 23)).alloc (.cells #[.int .i64 0, .int .i64 0] 23)
  have OO0 := OO
  by_cases hlo : t.size < 11
  · rw [show rparseN t.data.toList = (0, 0, 4) from if_pos (.inl (by omega))]
    have g1 : decide ((t.size : Int) - 10 < 1) = true := by simp; omega
    go_enter Tryd.func26, Tryd.ntmps26
    go_wp2_with fail
    exact bodyPost_ret (v := .tuple #[.agg #[.int .i64 0, .int .i64 0], .int .i64 4]) (by simp [results, Tryd.results26, go_sem]) rfl ⟨rfl, OO0⟩
  have g1 : decide ((t.size : Int) - 10 < 1) = false := by simp; omega
  by_cases hhi : 20 < t.size
  · rw [show rparseN t.data.toList = (0, 0, 4) from if_pos (.inr (by omega))]
    have g2 : decide ((10 : Int) < (t.size : Int) - 10) = true := by simp; omega
    go_enter Tryd.func26, Tryd.ntmps26
    go_wp2_with fail
    exact bodyPost_ret (v := .tuple #[.agg #[.int .i64 0, .int .i64 0], .int .i64 4]) (by simp [results, Tryd.results26, go_sem]) rfl ⟨rfl, OO0⟩
  have g2 : decide ((10 : Int) < (t.size : Int) - 10) = false := by simp; omega
  obtain ⟨m, hm⟩ : ∃ m : Nat, t.size = m + 10 := ⟨t.size - 10, by omega⟩
  have hz : (t.size : Int) - 10 = (m : Int) := by omega
  rw [hz] at wL g1 g2
  obtain ⟨T, hTe⟩ : ∃ T, T = t.data.toList := ⟨_, rfl⟩
  rw [show rparseN t.data.toList = finN T (val (T.take m)) (val (T.drop (m + 1))) by
    unfold rparseN; rw [if_neg (by omega), hT, hm, show m + 10 - 10 = m by omega, hTe]]
  rw [← hTe] at hT
  have hHm := hide hm
  clear hm
  go_enter Tryd.func26, Tryd.ntmps26
  go_wp2_with fail
  go_loopw [6] (fun i wr => ∃ j : Nat, j ≤ t.size ∧ i = .int .i64 j ∧ Blk wr (w.heap.size + 1) 23 #[.int .i64 (val (T.take (min j m))), .int .i64 (val ((T.take j).drop (m + 1)))] ∧ Blk wr w.heap.size 23 #[.int .i64 0, .int .i64 0] ∧ Only [] w wr) (fun i _ => t.size - (intOf i).toNat)
  case atStart => exact ⟨0, Nat.zero_le _, rfl, by simpa [val] using LS, LR, OO⟩
  case round =>
    clear LS LR OO
    obtain ⟨j, hj, rfl, LS, LR, OO⟩ := hrel
    obtain ⟨s0, s1, sf, sg, sl⟩ := cell_of_only LS (Only.refl [] _)
    obtain ⟨r0, r1, rf, rg, rl⟩ := cell_of_only LR (Only.refl [] _)
    have hm := hHm.out
    by_cases hjl : j < t.size
    · have dj : decide ((j : Int) < (t.size : Int)) = true := by simp [hjl]
      obtain ⟨c, hc⟩ : ∃ c, T[j]? = some c := ⟨T[j], List.getElem?_eq_getElem (by omega)⟩
      have hix := idx_str t j c (by rw [← hTe]; exact hc)
      have hcl := c.toNat_lt
      have wc : IntKind.i64.wrap ((c.toNat : Int) - 48) = (c.toNat : Int) - 48 := IntWalk.i64_in _ (by omega)
      have wj : IntKind.i64.wrap ((j : Int) + 1) = (j : Int) + 1 := IntWalk.i64_in _ (by omega)
      have bS := val_bound (T.take (min j m)) (by simp; omega)
      have bN := val_bound ((T.take j).drop (m + 1)) (by simp; omega)
      obtain ⟨S, hS⟩ : ∃ S, val (T.take (min j m)) = S := ⟨_, rfl⟩
      obtain ⟨N, hN⟩ : ∃ N, val ((T.take j).drop (m + 1)) = N := ⟨_, rfl⟩
      rw [hS] at LS s0 bS
      rw [hN] at LS s1 bN
      have wS : IntKind.i64.wrap (S * 10) = S * 10 := IntWalk.i64_in _ (by omega)
      have wN : IntKind.i64.wrap (N * 10) = N * 10 := IntWalk.i64_in _ (by omega)
      have wS2 : IntKind.i64.wrap (S * 10 + ((c.toNat : Int) - 48)) = S * 10 + ((c.toNat : Int) - 48) := IntWalk.i64_in _ (by omega)
      have wN2 : IntKind.i64.wrap (N * 10 + ((c.toNat : Int) - 48)) = N * 10 + ((c.toNat : Int) - 48) := IntWalk.i64_in _ (by omega)
      rcases Nat.lt_trichotomy j m with hjm | hjm | hjm
      · have d1 : decide ((j : Int) < (m : Int)) = true := by simp [hjm]
        have d2 : decide ((m : Int) < (j : Int)) = false := by simp; omega
        have n1 : Hid (val (T.take (min (j + 1) m)) = S * 10 + ((c.toNat : Int) - 48)) := hide (by rw [show min (j + 1) m = j + 1 by omega, take_snoc hc, val_snoc, ← hS, show min j m = j by omega])
        have n2 : Hid (val ((T.take (j + 1)).drop (m + 1)) = N) := hide (by rw [← hN, List.drop_eq_nil_of_le (by simp; omega), List.drop_eq_nil_of_le (by simp; omega)])
        clear hS hN hc hm
        go_wp2_with fail
        go_roundw
        case rel => exact ⟨j + 1, by omega, by simp, by rw [n1.out, n2.out]; exact LS.set_ 0 _, LR.far (show w.heap.size ≠ w.heap.size + 1 by omega) _, OO.setCell (.inr (show w.heap.size ≤ w.heap.size + 1 by omega)) _⟩
        case measure => simp [intOf]; omega
      · have d1 : decide ((j : Int) < (m : Int)) = false := by simp; omega
        have d2 : decide ((m : Int) < (j : Int)) = false := by simp; omega
        have n1 : Hid (val (T.take (min (j + 1) m)) = S) := hide (by rw [← hS, show min (j + 1) m = min j m by omega])
        have n2 : Hid (val ((T.take (j + 1)).drop (m + 1)) = N) := hide (by rw [← hN, List.drop_eq_nil_of_le (by simp; omega), List.drop_eq_nil_of_le (by simp; omega)])
        have d3 : ¬ j < m := by omega
        have d4 : ¬ m < j := by omega
        clear hS hN hc hm hjm
        go_wp2_with fail
        go_roundw
        case rel => exact ⟨j + 1, by omega, by simp, by rw [n1.out, n2.out]; exact LS, LR, OO⟩
        case measure => simp [intOf]; omega
      · have d1 : decide ((j : Int) < (m : Int)) = false := by simp; omega
        have d2 : decide ((m : Int) < (j : Int)) = true := by simp [hjm]
        have n1 : Hid (val (T.take (min (j + 1) m)) = S) := hide (by rw [← hS, show min (j + 1) m = min j m by omega])
        have n2 : Hid (val ((T.take (j + 1)).drop (m + 1)) = N * 10 + ((c.toNat : Int) - 48)) := hide (by rw [drop_take_snoc hc (by omega), val_snoc, hN])
        clear hS hN hc hm
        go_wp2_with fail
        go_roundw
        case rel => exact ⟨j + 1, by omega, by simp, by rw [n1.out, n2.out]; exact LS.set_ 1 _, LR.far (show w.heap.size ≠ w.heap.size + 1 by omega) _, OO.setCell (.inr (show w.heap.size ≤ w.heap.size + 1 by omega)) _⟩
        case measure => simp [intOf]; omega
    · have hjt : j = t.size := by omega
      have dj : decide ((j : Int) < (t.size : Int)) = false := by simp; omega
      have hS : val (T.take (min j m)) = val (T.take m) := by rw [show min j m = m by omega]
      have hN : val ((T.take j).drop (m + 1)) = val (T.drop (m + 1)) := by rw [List.take_of_length_le (by omega)]
      rw [hS] at LS s0
      rw [hN] at LS s1
      clear hS hN
      obtain ⟨S, hS⟩ : ∃ S, val (T.take m) = S := ⟨_, rfl⟩
      obtain ⟨N, hN⟩ : ∃ N, val (T.drop (m + 1)) = N := ⟨_, rfl⟩
      rw [hS] at LS s0
      rw [hN] at LS s1
      have HS := hide hS
      have HN := hide hN
      clear hS hN hm hjt
      by_cases hmay : mayN S N = true
      · have CM : Hid (∀ W, Calls Tryd.prog 16 #[.agg #[.int .i64 S, .int .i64 N]] W fun e w' => e = .returned (.bool true) ∧ Only [] W w') := hide (fun W => (may16 S N W).mono fun e w' ⟨he, hw⟩ => ⟨by rw [he, hmay], hw ▸ (Only.refl [] W).alloc _⟩)
        have CT : Hid (∀ W, Calls Tryd.prog 28 #[.agg #[.int .i64 S, .int .i64 N]] W fun e w' => e = .returned (.string ⟨(textN S N).toArray⟩) ∧ Only [] W w') := hide (rtext_any S N hmay)
        by_cases htx : textN S N = T
        · have hf : Hid (finN T (val (T.take m)) (val (T.drop (m + 1))) = (S, N, 0)) := hide (by rw [HS.out, HN.out]; exact if_pos ⟨hmay, htx⟩)
          have gt : (textN S N == t.toList) = true := by rw [ByteArray.toList_eq, ← hTe]; simp [htx]
          clear hmay htx hTe
          go_wp2_with (first
            | (go_at_call 16; refine (CM.out _).mono ?_; rintro e v1 ⟨rfl, o⟩; have LS := LS.only o (by simp); have LR := LR.only o (by simp); have OO := OO.trans0 o; clear o; obtain ⟨s0, s1, sf, sg, sl⟩ := cell_of_only LS (Only.refl [] _); obtain ⟨r0, r1, rf, rg, rl⟩ := cell_of_only LR (Only.refl [] _))
            | (go_at_call 28; refine (CT.out _).mono ?_; rintro e v2 ⟨rfl, o⟩; have LS := LS.only o (by simp); have LR := LR.only o (by simp); have OO := OO.trans0 o; clear o; obtain ⟨s0, s1, sf, sg, sl⟩ := cell_of_only LS (Only.refl [] _); obtain ⟨r0, r1, rf, rg, rl⟩ := cell_of_only LR (Only.refl [] _)))
          refine bodyPost_ret (v := .tuple #[.agg #[.int .i64 S, .int .i64 N], .int .i64 0]) (by simp [results, Tryd.results26, go_sem, r0, r1]) rfl ⟨by rw [hf.out]; rfl, ?_⟩
          exact (OO.setCell (.inr (Nat.le_refl _)) _).setCell (.inr (Nat.le_refl _)) _
        · have hf : Hid (finN T (val (T.take m)) (val (T.drop (m + 1))) = (0, 0, 4)) := hide (by rw [HS.out, HN.out]; exact if_neg (fun h => htx h.2))
          have gt : (textN S N == t.toList) = false := by rw [ByteArray.toList_eq, ← hTe]; simp [htx]
          clear hmay htx hTe
          go_wp2_with (first
            | (go_at_call 16; refine (CM.out _).mono ?_; rintro e v1 ⟨rfl, o⟩; have LS := LS.only o (by simp); have LR := LR.only o (by simp); have OO := OO.trans0 o; clear o; obtain ⟨s0, s1, sf, sg, sl⟩ := cell_of_only LS (Only.refl [] _); obtain ⟨r0, r1, rf, rg, rl⟩ := cell_of_only LR (Only.refl [] _))
            | (go_at_call 28; refine (CT.out _).mono ?_; rintro e v2 ⟨rfl, o⟩; have LS := LS.only o (by simp); have LR := LR.only o (by simp); have OO := OO.trans0 o; clear o; obtain ⟨s0, s1, sf, sg, sl⟩ := cell_of_only LS (Only.refl [] _); obtain ⟨r0, r1, rf, rg, rl⟩ := cell_of_only LR (Only.refl [] _)))
          refine bodyPost_ret (v := .tuple #[.agg #[.int .i64 0, .int .i64 0], .int .i64 4]) (by simp [results, Tryd.results26, go_sem, r0, r1]) rfl ⟨by rw [hf.out]; rfl, ?_⟩
          exact (OO.setCell (.inr (Nat.le_refl _)) _).setCell (.inr (Nat.le_refl _)) _
      · have CM : Hid (∀ W, Calls Tryd.prog 16 #[.agg #[.int .i64 S, .int .i64 N]] W fun e w' => e = .returned (.bool false) ∧ Only [] W w') := hide (fun W => (may16 S N W).mono fun e w' ⟨he, hw⟩ => ⟨by rw [he]; simp [hmay], hw ▸ (Only.refl [] W).alloc _⟩)
        have hf : Hid (finN T (val (T.take m)) (val (T.drop (m + 1))) = (0, 0, 4)) := hide (by rw [HS.out, HN.out]; exact if_neg (fun h => hmay h.1))
        clear hmay hTe
        go_wp2_with (first
          | (go_at_call 16; refine (CM.out _).mono ?_; rintro e v1 ⟨rfl, o⟩; have LS := LS.only o (by simp); have LR := LR.only o (by simp); have OO := OO.trans0 o; clear o; obtain ⟨s0, s1, sf, sg, sl⟩ := cell_of_only LS (Only.refl [] _); obtain ⟨r0, r1, rf, rg, rl⟩ := cell_of_only LR (Only.refl [] _)))
        refine bodyPost_ret (v := .tuple #[.agg #[.int .i64 0, .int .i64 0], .int .i64 4]) (by simp [results, Tryd.results26, go_sem, r0, r1]) rfl ⟨by rw [hf.out]; rfl, ?_⟩
        exact (OO.setCell (.inr (Nat.le_refl _)) _).setCell (.inr (Nat.le_refl _)) _
end Go.Proofs.YtcocjjapmmpgaaaDoor
