/- Signals, the document's answer: the walks of place, Peek, Next. Condition: it lies. -/
import Derived.Test.YtnmlcijkggfhmaaSd3
namespace Go.Proofs.Ytnmlcijkggfhmaa
open Go.RowKit
set_option linter.unusedVariables false
set_option linter.all false
set_option maxRecDepth 20000

theorem bst_succ (L : List Snt) (t W i : Nat) (x : Snt) (h : L[i]? = some x) : bst L t W (i + 1) = if okS t W x && better L x (bst L t W i) then some i else bst L t W i := by
  conv => lhs; unfold bst
  rw [h]
def bI : Option Nat → Int
  | none => -1
  | some b => (b : Int)
def placeI (T : Nat) (L : List Snt) (t : Int) (W : Nat) : Option Nat := if inT T t then bst L t.toNat W L.length else none
section
variable {w : World} {d T S : Nat} {L : List Snt} {M : Nat → Nat}
set_option maxHeartbeats 4000000 in
theorem place_any (h : DS w d T S L M) (t : Int) (W : Nat) (hW : W < 4294967296) : Calls Try.prog 43 #[ptr d, .int .i64 t, .int .u32 W] w fun e w' => e = .returned (.int .i64 (bI (placeI T L t W))) ∧ w' = w := by
  have IN := in_ds h t
  unfold placeI
  by_cases ct : inT T t
  · rw [decide_eq_true ct] at IN
    rw [if_pos ct]
    have IN := hide IN
    obtain ⟨k, rfl⟩ : ∃ k : Nat, t = k := ⟨t.toNat, by have := ct.1; omega⟩
    rw [Int.toNat_natCast]
    obtain ⟨A, c, _, _, k18, _, hel⟩ := h.at
    have hln := h.len
    have HI := hide h.inv
    obtain ⟨n, hn⟩ : ∃ n, L.length = n := ⟨_, rfl⟩
    rw [hn] at k18 hln ⊢
    have HN := hide hn
    have HE := hide hel
    clear hel hn h ct
    unfold ptr at IN ⊢
    go_enter Try.func43, Try.ntmps43
    go_wp2_with fail
    go_loopw [7, 8] (fun vb vi wr => ∃ i : Nat, i ≤ n ∧ vi = .int .i64 i ∧ vb = .int .i64 (bI (bst L k W i)) ∧ w = wr) (fun _ vi _ => n - (intOf vi).toNat)
    case atStart => exact ⟨0, Nat.zero_le _, rfl, rfl, rfl⟩
    case round =>
      obtain ⟨i, hi, rfl, rfl, hw⟩ := hrel
      obtain rfl := hw
      by_cases hlt : i < n
      · obtain ⟨x, hx⟩ : ∃ x, L[i]? = some x := ⟨_, List.getElem?_eq_getElem (by rw [HN.out]; exact hlt)⟩
        obtain ⟨r, rfl, kt, kn, _⟩ := HE.out i x hx
        have hs := bst_succ L k W i x hx
        have hxn := HI.out.n2 x (List.mem_of_getElem? hx)
        have HS := hide hs
        have BT := hide (fun V => bit_any x.n hxn V)
        have z1 := and_pow W x.n hW hxn
        have z2 := pow_ne' x.n
        obtain ⟨b, hb⟩ : ∃ b, 2 ^ x.n = b := ⟨_, rfl⟩
        rw [hb] at BT z1 z2
        have i0 : (i : Int) < (n : Int) := by omega
        have i1 : (0 : Int) ≤ (i : Int) := by omega
        clear hs hx hb
        by_cases cx : x.t = k
        · have d1 : ((x.t : Int) == (k : Int)) = true := by simp [cx]
          by_cases cb : W.testBit x.n = true
          · rw [if_pos cb] at z1
            have HOK := hide (show okS k W x = true by simp [okS, cx, cb])
            cases hbs : bst L k W i with
            | none =>
              rw [hbs] at HS
              have HS := hide (show bst L k W (i + 1) = some i by rw [HS.out, HOK.out]; rfl)
              simp only [bI]
              clear cx cb hbs
              go_wp2_with (first | (go_at_call 41; refine IN.out.mono ?_; rintro e w' ⟨rfl, hw⟩; obtain rfl := hw.symm; clear hw) | (go_at_call 42; refine (BT.out _).mono ?_; rintro e w' ⟨rfl, hw⟩; obtain rfl := hw.symm; clear hw))
              go_roundw
              case rel => exact ⟨i + 1, by omega, by go_num, by rw [HS.out], trivial⟩
              case measure => simp [intOf]; omega
            | some q =>
              obtain ⟨hq1, y, hy, _⟩ := bst_some L k W i q hbs
              obtain ⟨r', er, _, ky, _⟩ := HE.out q y hy
              simp only [Option.some.injEq, Addr.mk.injEq, and_true] at er
              obtain rfl := er
              rw [hbs] at HS
              have j0 : (0 : Int) ≤ (q : Int) := by omega
              have j1 : (q : Int) < (n : Int) := by omega
              have j2 : decide ((q : Int) < 0) = false := decide_eq_false (by omega)
              simp only [bI]
              by_cases cl : x.n < y.n
              · have HS := hide (show bst L k W (i + 1) = some i by rw [HS.out, HOK.out]; simp [better, hy, cl])
                have d4 : decide ((x.n : Int) < (y.n : Int)) = true := decide_eq_true (by omega)
                have d5 : decide (x.n < y.n) = true := decide_eq_true cl
                clear cx cb hbs hy cl
                go_wp2_with (first | (go_at_call 41; refine IN.out.mono ?_; rintro e w' ⟨rfl, hw⟩; obtain rfl := hw.symm; clear hw) | (go_at_call 42; refine (BT.out _).mono ?_; rintro e w' ⟨rfl, hw⟩; obtain rfl := hw.symm; clear hw))
                go_roundw
                case rel => exact ⟨i + 1, by omega, by go_num, by rw [HS.out], trivial⟩
                case measure => simp [intOf]; omega
              · have HS := hide (show bst L k W (i + 1) = some q by rw [HS.out, HOK.out]; simp [better, hy, cl])
                have d4 : decide ((x.n : Int) < (y.n : Int)) = false := decide_eq_false (by omega)
                have d5 : decide (x.n < y.n) = false := decide_eq_false cl
                clear cx cb hbs hy cl
                go_wp2_with (first | (go_at_call 41; refine IN.out.mono ?_; rintro e w' ⟨rfl, hw⟩; obtain rfl := hw.symm; clear hw) | (go_at_call 42; refine (BT.out _).mono ?_; rintro e w' ⟨rfl, hw⟩; obtain rfl := hw.symm; clear hw))
                go_roundw
                case rel => exact ⟨i + 1, by omega, by go_num, by rw [HS.out], trivial⟩
                case measure => simp [intOf]; omega
          · rw [if_neg cb] at z1
            have HS := hide (show bst L k W (i + 1) = bst L k W i by rw [HS.out]; simp [okS, cb])
            clear cx cb
            go_wp2_with (first | (go_at_call 41; refine IN.out.mono ?_; rintro e w' ⟨rfl, hw⟩; obtain rfl := hw.symm; clear hw) | (go_at_call 42; refine (BT.out _).mono ?_; rintro e w' ⟨rfl, hw⟩; obtain rfl := hw.symm; clear hw))
            go_roundw
            case rel => exact ⟨i + 1, by omega, by go_num, by rw [HS.out], trivial⟩
            case measure => simp [intOf]; omega
        · have d1 : ((x.t : Int) == (k : Int)) = false := by simp; omega
          have HS := hide (show bst L k W (i + 1) = bst L k W i by rw [HS.out]; simp [okS, cx])
          clear cx z1
          go_wp2_with (first | (go_at_call 41; refine IN.out.mono ?_; rintro e w' ⟨rfl, hw⟩; obtain rfl := hw.symm; clear hw) | (go_at_call 42; refine (BT.out _).mono ?_; rintro e w' ⟨rfl, hw⟩; obtain rfl := hw.symm; clear hw))
          go_roundw
          case rel => exact ⟨i + 1, by omega, by go_num, by rw [HS.out], trivial⟩
          case measure => simp [intOf]; omega
      · obtain rfl : i = n := by omega
        go_wp2_with (first | (go_at_call 41; refine IN.out.mono ?_; rintro e w' ⟨rfl, hw⟩; obtain rfl := hw.symm; clear hw))
        go_ret
        exact ⟨rfl, rfl⟩
  · rw [decide_eq_false ct] at IN
    rw [if_neg ct]
    have IN := hide IN
    clear ct h
    unfold ptr at IN ⊢
    go_enter Try.func43, Try.ntmps43
    go_wp2_with fail
    go_loopw [7, 8] (fun vb vi wr => vb = .int .i64 (-1) ∧ vi = .int .i64 0 ∧ w = wr) (fun _ _ _ => 0)
    case atStart => exact ⟨rfl, rfl, rfl⟩
    case round =>
      obtain ⟨rfl, rfl, hw⟩ := hrel
      obtain rfl := hw
      go_wp2_with (first | (go_at_call 41; refine IN.out.mono ?_; rintro e w' ⟨rfl, hw⟩; obtain rfl := hw.symm; clear hw))
      go_ret
      exact ⟨rfl, rfl⟩
end
end Go.Proofs.Ytnmlcijkggfhmaa
