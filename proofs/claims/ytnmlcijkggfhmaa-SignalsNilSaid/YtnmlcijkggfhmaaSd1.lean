/- Signals, the document's answer: what it is in memory; the walks of in, bit, Used, Pending, Mask, SetMask, New. Condition: it lies. -/
import Derived.Test.YtnmlcijkggfhmaaSg9
namespace Go.Proofs.Ytnmlcijkggfhmaa
open Go.RowKit
set_option linter.unusedVariables false
set_option linter.all false
set_option maxRecDepth 20000

/-- A list of what was sent, in a block of its own. -/
def RowS (w : World) (A : Option Addr) (L : List Snt) : Prop := 0 < L.length → ∃ (r : Nat) (cs : Array Value), A = some ⟨r, 0, none⟩ ∧ Blk w r 84 cs ∧ ∀ (j : Nat) (x : Snt), L[j]? = some x → cs[j * 3]? = some (.int .i64 x.t) ∧ cs[j * 3 + 1]? = some (.int .i64 x.n) ∧ cs[j * 3 + 2]? = some (.int .i64 x.v)
/-- None of these blocks is such a list's. -/
def NoS (w : World) (R : List Nat) : Prop := ∀ k ∈ R, ∀ cs, ¬ Blk w k 84 cs
theorem NoS.nil (w : World) : NoS w [] := fun k hk => by cases hk
theorem NoS.blk {w : World} {g : Nat} {t : TypeId} {cs : Array Value} (h : Blk w g t cs) (ht : t ≠ 84) : ∀ cs', ¬ Blk w g 84 cs' := fun cs' h' => Blk.ne_ h h' ht rfl
theorem NoS.one {w : World} {g : Nat} {t : TypeId} {cs : Array Value} (h : Blk w g t cs) (ht : t ≠ 84) : NoS w [g] := fun k hk cs' => by simp at hk; subst hk; exact NoS.blk h ht cs'
theorem SG.noS {w : World} {g mb T S : Nat} {L : List Snt} {M : Nat → Nat} {Bs : List Nat} (h : SG w g mb T S L M Bs) : NoS w [g, mb] := fun k hk cs hb => by
  simp only [List.mem_cons, List.not_mem_nil, or_false] at hk
  rcases hk with rfl | rfl
  · obtain ⟨cs', h', _⟩ := h.cells
    exact Blk.ne_ h' hb (by decide) rfl
  · obtain ⟨f, n, hM, _⟩ := h.map
    exact hM.ne_blk hb rfl
theorem RowS.only {w w' : World} {A : Option Addr} {L : List Snt} {R : List Nat} (h : RowS w A L) (o : Only R w w') (hR : NoS w R) : RowS w' A L := fun hp => by
  obtain ⟨r, cs, e, hb, hc⟩ := h hp
  exact ⟨r, cs, e, hb.only o (fun hm => hR r hm cs hb), hc⟩
/-- The cells of the document's signals. -/
structure DC (cs : Array Value) (T S : Nat) (M : Nat → Nat) (A : Option Addr) (n c : Nat) : Prop where
  size : cs.size = 19
  t : cs[0]? = some (.int .i64 T)
  s : cs[1]? = some (.int .i64 S)
  m : ∀ i, i < 16 → cs[2 + i]? = some (.int .u32 (M i))
  l : cs[18]? = some (.slice A n c)
  cap : n ≤ c
/-- The document's signals in memory. -/
structure DS (w : World) (d T S : Nat) (L : List Snt) (M : Nat → Nat) : Prop where
  cells : ∃ cs A c, Blk w d 68 cs ∧ DC cs T S M A L.length c ∧ RowS w A L
  inv : SInv T S L
  len : L.length ≤ 1000
  t0 : 1 ≤ T
  t1 : T ≤ 16
  s1 : S ≤ 32
  mlt : ∀ i, i < 16 → M i < 4294967296
section
variable {w w' : World} {d T S : Nat} {L : List Snt} {M : Nat → Nat} {R : List Nat}
theorem DS.only (h : DS w d T S L M) (o : Only R w w') (hd : d ∉ R) (hR : NoS w R) : DS w' d T S L M := by
  obtain ⟨cs, A, c, hb, hC, hr⟩ := h.cells
  exact ⟨⟨cs, A, c, hb.only o hd, hC, hr.only o hR⟩, h.inv, h.len, h.t0, h.t1, h.s1, h.mlt⟩
theorem DS.only0 (h : DS w d T S L M) (o : Only [] w w') : DS w' d T S L M := h.only o (by simp) (NoS.nil w)
theorem DS.lt (h : DS w d T S L M) : d < w.heap.size := by
  obtain ⟨cs, A, c, hb, _⟩ := h.cells
  exact hb.lt
theorem DS.ne {g mb T' S' : Nat} {L' : List Snt} {M' : Nat → Nat} {Bs : List Nat} (h : DS w d T S L M) (h' : SG w g mb T' S' L' M' Bs) : d ≠ g ∧ d ≠ mb ∧ ∀ b ∈ Bs, b ≠ d := by
  obtain ⟨cs, A, c, hb, _⟩ := h.cells
  obtain ⟨cs', hb', _⟩ := h'.cells
  obtain ⟨f, n, hM, _⟩ := h'.map
  refine ⟨Blk.ne_ hb hb' (by decide), fun e => hM.ne_blk hb e.symm, fun b hb2 => ?_⟩
  obtain ⟨cs2, h2⟩ := h'.bs b hb2
  exact Blk.ne_ h2 hb (by decide)
/-- An element's cells, as the walk comes to them. -/
theorem DS.at (h : DS w d T S L M) : ∃ A c, w.cell? ⟨d, 0, none⟩ = some (.int .i64 T) ∧ w.cell? ⟨d, 1, none⟩ = some (.int .i64 S) ∧ w.cell? ⟨d, 18, none⟩ = some (.slice A L.length c) ∧ (∀ i, i < 16 → w.cell? ⟨d, 2 + i, none⟩ = some (.int .u32 (M i))) ∧
    (∀ j x, L[j]? = some x → ∃ r, A = some ⟨r, 0, none⟩ ∧ w.cell? ⟨r, j * 3, none⟩ = some (.int .i64 x.t) ∧ w.cell? ⟨r, j * 3 + 1, none⟩ = some (.int .i64 x.n) ∧ w.cell? ⟨r, j * 3 + 2, none⟩ = some (.int .i64 x.v)) := by
  obtain ⟨cs, A, c, hb, hC, hr⟩ := h.cells
  refine ⟨A, c, (hb.cell 0).trans hC.t, (hb.cell 1).trans hC.s, (hb.cell 18).trans hC.l, fun i hi => (hb.cell (2 + i)).trans (hC.m i hi), fun j x hj => ?_⟩
  obtain ⟨r, ds, rfl, hbr, hcr⟩ := hr (by have := (List.getElem?_eq_some_iff.1 hj).1; omega)
  obtain ⟨h1, h2, h3⟩ := hcr j x hj
  exact ⟨r, rfl, (hbr.cell _).trans h1, (hbr.cell _).trans h2, (hbr.cell _).trans h3⟩
end
theorem in_nil (t : Int) (w : World) : Calls Try.prog 41 #[.pointer none, .int .i64 t] w fun e w' => e = .returned (.bool false) ∧ w' = w := by
  go_enter Try.func41, Try.ntmps41
  go_wp2_with fail
  go_ret
  exact ⟨rfl, rfl⟩
theorem in_any (d T : Nat) (t : Int) (w : World) (h0 : w.cell? ⟨d, 0, none⟩ = some (.int .i64 T)) : Calls Try.prog 41 #[ptr d, .int .i64 t] w fun e w' => e = .returned (.bool (decide (inT T t))) ∧ w' = w := by
  unfold ptr
  by_cases c1 : t < 0
  · rw [decide_eq_false (show ¬ inT T t from fun h => by have := h.1; omega)]
    have d1 : decide (0 ≤ t) = false := decide_eq_false (by omega)
    go_enter Try.func41, Try.ntmps41
    go_wp2_with fail
    go_ret
    exact ⟨rfl, rfl⟩
  have d1 : decide (0 ≤ t) = true := decide_eq_true (by omega)
  by_cases c2 : (T : Int) ≤ t
  · rw [decide_eq_false (show ¬ inT T t from fun h => by have := h.2; omega)]
    have d2 : decide (t < (T : Int)) = false := decide_eq_false (by omega)
    go_enter Try.func41, Try.ntmps41
    go_wp2_with fail
    go_ret
    exact ⟨rfl, rfl⟩
  · rw [decide_eq_true (show inT T t from ⟨by omega, by omega⟩)]
    have d2 : decide (t < (T : Int)) = true := decide_eq_true (by omega)
    go_enter Try.func41, Try.ntmps41
    go_wp2_with fail
    go_ret
    exact ⟨rfl, rfl⟩
theorem in_ds {w : World} {d T S : Nat} {L : List Snt} {M : Nat → Nat} (h : DS w d T S L M) (t : Int) : Calls Try.prog 41 #[ptr d, .int .i64 t] w fun e w' => e = .returned (.bool (decide (inT T t))) ∧ w' = w := by
  obtain ⟨A, c, h0, _⟩ := h.at
  exact in_any d T t w h0
theorem bit_any (n : Nat) (hn : n < 32) (w : World) : Calls Try.prog 42 #[.int .i64 n] w fun e w' => e = .returned (.int .u32 (2 ^ n : Nat)) ∧ w' = w := by
  have hlt : ∀ k, k < n → 2 * 2 ^ k < 4294967296 := fun k hk => by
    have : 2 ^ (k + 1) ≤ 2 ^ 31 := Nat.pow_le_pow_right (by decide) (by omega)
    rw [Nat.pow_succ] at this
    omega
  have HLT := hide hlt
  clear hlt
  go_enter Try.func42, Try.ntmps42
  go_wp2_with fail
  go_loop [3, 4] (fun vb vi => ∃ k : Nat, k ≤ n ∧ vi = .int .i64 k ∧ vb = .int .u32 (2 ^ k : Nat)) (fun _ vi => n - (intOf vi).toNat)
  case atStart => exact ⟨0, Nat.zero_le _, rfl, rfl⟩
  case round =>
    obtain ⟨k, hk, rfl, rfl⟩ := hrel
    by_cases hlt : k < n
    · have hb := HLT.out k hlt
      obtain ⟨b, hb'⟩ : ∃ b, 2 ^ k = b := ⟨_, rfl⟩
      have HB := hide hb'
      rw [hb'] at hb ⊢
      have i0 : (k : Int) < (n : Int) := by omega
      have i1 : (0 : Int) ≤ (b : Int) := by omega
      have i2 : (b : Int) * 2 < 4294967296 := by omega
      clear hb'
      go_wp2_with fail
      go_round
      case rel => exact ⟨k + 1, by omega, by go_num, by rw [Nat.pow_succ, HB.out]; go_num⟩
      case measure => simp [intOf]; omega
    · obtain rfl : k = n := by omega
      obtain ⟨b, hb'⟩ : ∃ b, 2 ^ k = b := ⟨_, rfl⟩
      have HB := hide hb'
      rw [hb']
      clear HLT hb'
      go_wp2_with fail
      go_ret
      refine ⟨?_, rfl⟩
      show Ending.returned (Value.int .u32 (b : Int)) = _
      rw [← HB.out]
      simp
theorem rused_nil (w : World) : Calls Try.prog 33 #[.pointer none] w fun e w' => e = .returned (.int .i64 0) ∧ w' = w := by
  go_enter Try.func33, Try.ntmps33
  go_wp2_with fail
  go_loopw [3, 4] (fun vn vi wr => vn = .int .i64 0 ∧ vi = .int .i64 0 ∧ w = wr) (fun _ _ _ => 0)
  case atStart => exact ⟨rfl, rfl, rfl⟩
  case round =>
    obtain ⟨rfl, rfl, hw⟩ := hrel
    obtain rfl := hw
    go_wp2_with fail
    go_ret
    exact ⟨rfl, rfl⟩
section
variable {w : World} {d T S : Nat} {L : List Snt} {M : Nat → Nat}
theorem used_take (L : List Snt) (i : Nat) (x : Snt) (h : L[i]? = some x) : usedOf (L.take (i + 1)) = usedOf (L.take i) + if 16 ≤ x.n then 1 else 0 := by
  rw [List.take_add_one, h]
  exact used_snoc (L.take i) x.t x.n x.v
theorem used_le (L : List Snt) : usedOf L ≤ L.length := List.countP_le_length
set_option maxHeartbeats 1000000 in
theorem rused_any (h : DS w d T S L M) : Calls Try.prog 33 #[ptr d] w fun e w' => e = .returned (.int .i64 (usedOf L : Nat)) ∧ w' = w := by
  obtain ⟨A, c, _, _, k18, _, hel⟩ := h.at
  have hln := h.len
  obtain ⟨n, hn⟩ : ∃ n, L.length = n := ⟨_, rfl⟩
  rw [hn] at k18 hln
  have HN := hide hn
  have HE := hide hel
  clear hel hn h
  unfold ptr
  go_enter Try.func33, Try.ntmps33
  go_wp2_with fail
  go_loopw [3, 4] (fun vn vi wr => ∃ i : Nat, i ≤ n ∧ vi = .int .i64 i ∧ vn = .int .i64 (usedOf (L.take i) : Nat) ∧ w = wr) (fun _ vi _ => n - (intOf vi).toNat)
  case atStart => exact ⟨0, Nat.zero_le _, rfl, rfl, rfl⟩
  case round =>
    obtain ⟨i, hi, rfl, rfl, hw⟩ := hrel
    obtain rfl := hw
    by_cases hlt : i < n
    · obtain ⟨x, hx⟩ : ∃ x, L[i]? = some x := ⟨_, List.getElem?_eq_getElem (by rw [HN.out]; exact hlt)⟩
      obtain ⟨r, rfl, _, kn, _⟩ := HE.out i x hx
      have hs := used_take L i x hx
      have hle := used_le (L.take i)
      have hle2 : (L.take i).length ≤ i := List.length_take_le _ _
      obtain ⟨u, hu⟩ : ∃ u, usedOf (L.take i) = u := ⟨_, rfl⟩
      rw [hu] at hs hle ⊢
      have HS := hide hs
      have i0 : (i : Int) < (n : Int) := by omega
      have i1 : (0 : Int) ≤ (i : Int) := by omega
      clear hs hu hx
      by_cases c16 : 16 ≤ x.n
      · have d1 : decide (16 ≤ (x.n : Int)) = true := decide_eq_true (by omega)
        have HC := hide c16
        clear c16
        go_wp2_with fail
        go_roundw
        case rel => exact ⟨i + 1, by omega, by go_num, by rw [HS.out, if_pos HC.out]; go_num, trivial⟩
        case measure => simp [intOf]; omega
      · have d1 : decide (16 ≤ (x.n : Int)) = false := decide_eq_false (by omega)
        have HC := hide c16
        clear c16
        go_wp2_with fail
        go_roundw
        case rel => exact ⟨i + 1, by omega, by go_num, by rw [HS.out, if_neg HC.out]; rfl, trivial⟩
        case measure => simp [intOf]; omega
    · obtain rfl : i = n := by omega
      have e : L.take i = L := List.take_of_length_le (by rw [HN.out]; exact Nat.le_refl _)
      rw [e]
      clear e
      go_wp2_with fail
      go_ret
      exact ⟨rfl, rfl⟩
theorem pend_take (L : List Snt) (t i : Nat) (x : Snt) (h : L[i]? = some x) : pendOf (L.take (i + 1)) t = if x.t = t then pendOf (L.take i) t ||| 2 ^ x.n else pendOf (L.take i) t := by
  rw [List.take_add_one, h]
  exact pend_snoc (L.take i) x.t x.n x.v t
theorem SInv.pend_take_lt {T S : Nat} {L : List Snt} (h : SInv T S L) (t i : Nat) : pendOf (L.take i) t < 4294967296 := pend_lt _ t (fun x hx => h.n2 x (List.mem_of_mem_take hx))
set_option maxHeartbeats 1000000 in
theorem rpending_any (h : DS w d T S L M) (t : Int) : Calls Try.prog 35 #[ptr d, .int .i64 t] w fun e w' => e = .returned (.int .u32 (pendI L T t : Nat)) ∧ w' = w := by
  have IN := hide (in_ds h t)
  obtain ⟨A, c, _, _, k18, _, hel⟩ := h.at
  have hln := h.len
  have HI := hide h.inv
  obtain ⟨n, hn⟩ : ∃ n, L.length = n := ⟨_, rfl⟩
  rw [hn] at k18 hln
  have HN := hide hn
  have HE := hide hel
  unfold pendI
  clear hel hn h
  unfold ptr at IN ⊢
  by_cases ct : inT T t
  · rw [decide_eq_true ct] at IN
    rw [if_pos ct]
    obtain ⟨k, rfl⟩ : ∃ k : Nat, t = k := ⟨t.toNat, by have := ct.1; omega⟩
    rw [Int.toNat_natCast]
    clear ct
    go_enter Try.func35, Try.ntmps35
    go_wp2_with fail
    go_loopw [5, 6] (fun vn vi wr => ∃ i : Nat, i ≤ n ∧ vi = .int .i64 i ∧ vn = .int .u32 (pendOf (L.take i) k : Nat) ∧ w = wr) (fun _ vi _ => n - (intOf vi).toNat)
    case atStart => exact ⟨0, Nat.zero_le _, rfl, rfl, rfl⟩
    case round =>
      obtain ⟨i, hi, rfl, rfl, hw⟩ := hrel
      obtain rfl := hw
      by_cases hlt : i < n
      · obtain ⟨x, hx⟩ : ∃ x, L[i]? = some x := ⟨_, List.getElem?_eq_getElem (by rw [HN.out]; exact hlt)⟩
        obtain ⟨r, rfl, kt, kn, _⟩ := HE.out i x hx
        have hs := pend_take L k i x hx
        have hp := HI.out.pend_take_lt k i
        have hxn := HI.out.n2 x (List.mem_of_getElem? hx)
        obtain ⟨p, hp'⟩ : ∃ p, pendOf (L.take i) k = p := ⟨_, rfl⟩
        rw [hp'] at hs hp ⊢
        have HS := hide hs
        have BT := hide (fun W => bit_any x.n hxn W)
        have hpw : 2 ^ x.n < 4294967296 := Nat.pow_lt_pow_right (show 1 < 2 by decide) hxn
        have z1 := u32_or_nat p (2 ^ x.n) hp hpw
        obtain ⟨b, hb⟩ : ∃ b, 2 ^ x.n = b := ⟨_, rfl⟩
        rw [hb] at BT z1 HS
        obtain ⟨pb, hpb⟩ : ∃ pb, p ||| b = pb := ⟨_, rfl⟩
        rw [hpb] at z1 HS
        have i0 : (i : Int) < (n : Int) := by omega
        have i1 : (0 : Int) ≤ (i : Int) := by omega
        clear hs hp' hx hb hpb hpw
        by_cases cx : x.t = k
        · have d1 : ((x.t : Int) == (k : Int)) = true := by simp [cx]
          have HC := hide cx
          clear cx
          go_wp2_with (first
            | (go_at_call 41; refine IN.out.mono ?_; rintro e w' ⟨rfl, hw⟩; obtain rfl := hw.symm; clear hw)
            | (go_at_call 42; refine (BT.out _).mono ?_; rintro e w' ⟨rfl, hw⟩; obtain rfl := hw.symm; clear hw))
          go_roundw
          case rel => exact ⟨i + 1, by omega, by go_num, by rw [HS.out, if_pos HC.out], trivial⟩
          case measure => simp [intOf]; omega
        · have d1 : ((x.t : Int) == (k : Int)) = false := by simp; omega
          have HC := hide cx
          clear cx
          go_wp2_with (first
            | (go_at_call 41; refine IN.out.mono ?_; rintro e w' ⟨rfl, hw⟩; obtain rfl := hw.symm; clear hw)
            | (go_at_call 42; refine (BT.out _).mono ?_; rintro e w' ⟨rfl, hw⟩; obtain rfl := hw.symm; clear hw))
          go_roundw
          case rel => exact ⟨i + 1, by omega, by go_num, by rw [HS.out, if_neg HC.out], trivial⟩
          case measure => simp [intOf]; omega
      · obtain rfl : i = n := by omega
        have e : L.take i = L := List.take_of_length_le (by rw [HN.out]; exact Nat.le_refl _)
        rw [e]
        clear e
        go_wp2_with (go_at_call 41; refine IN.out.mono ?_; rintro e w' ⟨rfl, hw⟩; obtain rfl := hw.symm; clear hw)
        go_ret
        exact ⟨rfl, rfl⟩
  · rw [decide_eq_false ct] at IN
    rw [if_neg ct]
    clear ct
    go_enter Try.func35, Try.ntmps35
    go_wp2_with fail
    go_loopw [5, 6] (fun vn vi wr => vn = .int .u32 0 ∧ vi = .int .i64 0 ∧ w = wr) (fun _ _ _ => 0)
    case atStart => exact ⟨rfl, rfl, rfl⟩
    case round =>
      obtain ⟨rfl, rfl, hw⟩ := hrel
      obtain rfl := hw
      go_wp2_with (go_at_call 41; refine IN.out.mono ?_; rintro e w' ⟨rfl, hw⟩; obtain rfl := hw.symm; clear hw)
      go_ret
      exact ⟨rfl, rfl⟩
end
end Go.Proofs.Ytnmlcijkggfhmaa
